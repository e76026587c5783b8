import Derived.Shelf.Strings.OnBuilder
import Derived.Shelf.Strings.Trim
import Derived.Shelf.Small.Wraps
import Derived.Shelf.Strings.Builder2Cap
import Derived.Shelf.Strconv.Itoa3
import Derived.Shelf.Strconv.ParseIntPublic10
import Derived.Shelf.Pu.ParseUintPublic10
import Derived.Shelf.Strings.Shaped
import Derived.Shelf.Unicode.Decode
import Derived.Shelf.Strings.Runes
import Derived.Shelf.Strings.AsciiSet
import Derived.Shelf.Bits.Mul64
import Derived.Shelf.Unicode.DecodeLast
import Derived.Shelf.Slices.Turned
import Derived.Shelf.Slices.Clone
import Derived.Shelf.SlicesE.Clone
import Derived.Test.YtboehbfagnocpaaGreatDoorProg
import Derived.PlainAid
import Derived.WalkSpells
import Derived.WalkLawsBesides
import Derived.Handy
import Derived.RangeFuncNested
import Derived.RangeFuncBound
import Derived.Shelf.RegionOpen
import Derived.OwnWalkIn
import Derived.LoopNIn
import Derived.LoopIn
set_option linter.unusedVariables false
set_option linter.unusedSimpArgs false
set_option maxRecDepth 100000
set_option maxHeartbeats 40000000
namespace Go.Proofs.YtboehbfagnocpaaGreatDoor
open Go.Shelf
def Tryz.oJ:Go.Shelf.Ren:=⟨fun|169=>262|n=>n,fun|70=>364|9=>9|0=>0|72=>366|37=>118|127=>398|3=>3|5=>5|n=>n,fun|n=>n⟩
theorem Tryz.Na:Go.Proofs.Lays.n169 Tryz.prog Tryz.oJ:={
 mixed:=by kernel_rfl
 f169:=Tryz.func262.trans (congrArg some (by kernel_rfl))
 t0:=Tryz.underlying0
 a0:=Tryz.isAgg0
 z0:=Tryz.sizeOf0
 v0:=Tryz.zeroValue0
 t3:=Tryz.underlying3
 a3:=Tryz.isAgg3
 z3:=Tryz.sizeOf3
 v3:=Tryz.zeroValue3
 t9:=Tryz.underlying9
 a9:=Tryz.isAgg9
 z9:=Tryz.sizeOf9
 v9:=Tryz.zeroValue9
 t37:=Tryz.underlying118
 a37:=Tryz.isAgg118
 z37:=Tryz.sizeOf118
 v37:=Tryz.zeroValue118
 t70:=Tryz.underlying364
 a70:=Tryz.isAgg364
 z70:=Tryz.sizeOf364
 v70:=Tryz.zeroValue364
 t72:=Tryz.underlying366
 a72:=Tryz.isAgg366
 z72:=Tryz.sizeOf366
 v72:=Tryz.zeroValue366
 t127:=Tryz.underlying398
 a127:=Tryz.isAgg398
 z127:=Tryz.sizeOf398
 v127:=Tryz.zeroValue398}
theorem Tryz.mq:Builder.Extra Tryz.prog Tryz.oJ:={
 sizeBuilder:=by kernel_rfl
 liesBuilder:=by kernel_rfl
 t5:=Tryz.underlying5
 a5:=Tryz.isAgg5
 z5:=Tryz.sizeOf5
 v5:=Tryz.zeroValue5
 infoByte:=by kernel_rfl
 cellsByte:=by kernel_rfl
 sizeByte:=by kernel_rfl
 neB5:=by decide}
open Go.RowKit in
theorem Tryz.Builder_String_any(B b:Nat)(l:List UInt8)(w:World)(h:Lib.IsBuilder 366 5 B b (Lib.byteCells l) w)(hBw:B<=w.heap.size):
 Calls Tryz.prog 262 #[.pointer (some ⟨b,0,none⟩)] w λe w'=>e=.returned (.string ⟨l.toArray⟩)/\Below B w w':=Any.Builder_String_any Tryz.Na Tryz.mq B b l w h hBw
def Tryz.oK:Go.Shelf.Ren:=⟨fun|156=>321|165=>352|166=>261|169=>262|240=>295|241=>361|276=>323|277=>365|n=>n,fun|31=>31|9=>9|3=>3|4=>4|0=>0|20=>20|72=>366|76=>367|70=>364|37=>118|75=>336|127=>398|164=>420|5=>5|80=>360|n=>n,fun|n=>n⟩
theorem Tryz.Cg:Go.Proofs.Lays.n156 Tryz.prog Tryz.oK:={
 mixed:=by kernel_rfl
 f156:=Tryz.func321.trans (congrArg some (by kernel_rfl))
 f165:=Tryz.func352.trans (congrArg some (by kernel_rfl))
 f166:=Tryz.func261.trans (congrArg some (by kernel_rfl))
 f169:=Tryz.func262.trans (congrArg some (by kernel_rfl))
 f240:=Tryz.func295.trans (congrArg some (by kernel_rfl))
 f241:=Tryz.func361.trans (congrArg some (by kernel_rfl))
 f276:=Tryz.func323.trans (congrArg some (by kernel_rfl))
 f277:=Tryz.func365.trans (congrArg some (by kernel_rfl))
 t0:=Tryz.underlying0
 a0:=Tryz.isAgg0
 z0:=Tryz.sizeOf0
 v0:=Tryz.zeroValue0
 t3:=Tryz.underlying3
 a3:=Tryz.isAgg3
 z3:=Tryz.sizeOf3
 v3:=Tryz.zeroValue3
 t4:=Tryz.underlying4
 a4:=Tryz.isAgg4
 z4:=Tryz.sizeOf4
 v4:=Tryz.zeroValue4
 t9:=Tryz.underlying9
 a9:=Tryz.isAgg9
 z9:=Tryz.sizeOf9
 v9:=Tryz.zeroValue9
 t20:=Tryz.underlying20
 a20:=Tryz.isAgg20
 z20:=Tryz.sizeOf20
 v20:=Tryz.zeroValue20
 t31:=Tryz.underlying31
 a31:=Tryz.isAgg31
 z31:=Tryz.sizeOf31
 v31:=Tryz.zeroValue31
 t37:=Tryz.underlying118
 a37:=Tryz.isAgg118
 z37:=Tryz.sizeOf118
 v37:=Tryz.zeroValue118
 t70:=Tryz.underlying364
 a70:=Tryz.isAgg364
 z70:=Tryz.sizeOf364
 v70:=Tryz.zeroValue364
 t72:=Tryz.underlying366
 a72:=Tryz.isAgg366
 z72:=Tryz.sizeOf366
 v72:=Tryz.zeroValue366
 t75:=Tryz.underlying336
 a75:=Tryz.isAgg336
 z75:=Tryz.sizeOf336
 v75:=Tryz.zeroValue336
 t76:=Tryz.underlying367
 a76:=Tryz.isAgg367
 z76:=Tryz.sizeOf367
 v76:=Tryz.zeroValue367
 t127:=Tryz.underlying398
 a127:=Tryz.isAgg398
 z127:=Tryz.sizeOf398
 v127:=Tryz.zeroValue398
 t164:=Tryz.underlying420
 a164:=Tryz.isAgg420
 z164:=Tryz.sizeOf420
 v164:=Tryz.zeroValue420}
theorem Tryz.il:Builder.Extra Tryz.prog Tryz.oK:={
 sizeBuilder:=by kernel_rfl
 liesBuilder:=by kernel_rfl
 t5:=Tryz.underlying5
 a5:=Tryz.isAgg5
 z5:=Tryz.sizeOf5
 v5:=Tryz.zeroValue5
 infoByte:=by kernel_rfl
 cellsByte:=by kernel_rfl
 sizeByte:=by kernel_rfl
 neB5:=by decide}
open Go.RowKit in
theorem Tryz.strings_Join_none(a:Option Addr)(c:Nat)(sep:ByteArray)(w:World):
 Calls Tryz.prog 321 #[.slice a 0 c,.string sep] w λe w'=>e=.returned (.string ⟨#[]⟩)/\w'=w:=Any.strings_Join_none Tryz.Cg Tryz.il a c sep w
open Go.RowKit in
theorem Tryz.strings_Join(bk o c:Nat)(xs:List ByteArray)(sep:ByteArray)(w:World)(hcells:∀(j:Nat) x,xs[j]?=some x->w.cell? ⟨bk,o+j,none⟩=some (.string x))(hbk:bk<w.heap.size)(hN:xs.length<=140737488355328)(hcap:xs.length<=c)(hlen:(Lib.join (xs.map (·.data.toList)) sep.data.toList).length<=140737488355328):
 Calls Tryz.prog 321 #[.slice (some ⟨bk,o,none⟩) xs.length c,.string sep] w λe w'=>e=.returned (.string ⟨(Lib.join (xs.map (·.data.toList)) sep.data.toList).toArray⟩)/\Below w.heap.size w w':=Any.strings_Join Tryz.Cg Tryz.il bk o c xs sep w hcells hbk hN hcap hlen
def Tryz.xN:Go.Shelf.Ren:=⟨fun|161=>248|231=>282|227=>283|233=>284|235=>285|228=>309|197=>310|151=>311|260=>334|152=>335|137=>249|119=>356|224=>332|225=>331|217=>286|266=>312|n=>n,fun|9=>9|4=>4|3=>3|5=>5|117=>384|116=>383|0=>0|124=>387|105=>410|21=>21|119=>437|46=>139|139=>440|138=>439|n=>n,fun|3=>6|4=>7|n=>n⟩
theorem Tryz.Nb:Go.Proofs.Lays.n161 Tryz.prog Tryz.xN:={
 mixed:=by kernel_rfl
 f119:=Tryz.func356.trans (congrArg some (by kernel_rfl))
 f137:=Tryz.func249.trans (congrArg some (by kernel_rfl))
 f151:=Tryz.func311.trans (congrArg some (by kernel_rfl))
 f152:=Tryz.func335.trans (congrArg some (by kernel_rfl))
 f161:=Tryz.func248.trans (congrArg some (by kernel_rfl))
 f197:=Tryz.func310.trans (congrArg some (by kernel_rfl))
 f217:=Tryz.func286.trans (congrArg some (by kernel_rfl))
 f224:=Tryz.func332.trans (congrArg some (by kernel_rfl))
 f225:=Tryz.func331.trans (congrArg some (by kernel_rfl))
 f227:=Tryz.func283.trans (congrArg some (by kernel_rfl))
 f228:=Tryz.func309.trans (congrArg some (by kernel_rfl))
 f231:=Tryz.func282.trans (congrArg some (by kernel_rfl))
 f233:=Tryz.func284.trans (congrArg some (by kernel_rfl))
 f235:=Tryz.func285.trans (congrArg some (by kernel_rfl))
 f260:=Tryz.func334.trans (congrArg some (by kernel_rfl))
 f266:=Tryz.func312.trans (congrArg some (by kernel_rfl))
 t0:=Tryz.underlying0
 a0:=Tryz.isAgg0
 z0:=Tryz.sizeOf0
 v0:=Tryz.zeroValue0
 t3:=Tryz.underlying3
 a3:=Tryz.isAgg3
 z3:=Tryz.sizeOf3
 v3:=Tryz.zeroValue3
 t4:=Tryz.underlying4
 a4:=Tryz.isAgg4
 z4:=Tryz.sizeOf4
 v4:=Tryz.zeroValue4
 t5:=Tryz.underlying5
 a5:=Tryz.isAgg5
 z5:=Tryz.sizeOf5
 v5:=Tryz.zeroValue5
 t9:=Tryz.underlying9
 a9:=Tryz.isAgg9
 z9:=Tryz.sizeOf9
 v9:=Tryz.zeroValue9
 t21:=Tryz.underlying21
 a21:=Tryz.isAgg21
 z21:=Tryz.sizeOf21
 v21:=Tryz.zeroValue21
 t46:=Tryz.underlying139
 a46:=Tryz.isAgg139
 z46:=Tryz.sizeOf139
 v46:=Tryz.zeroValue139
 t105:=Tryz.underlying410
 a105:=Tryz.isAgg410
 z105:=Tryz.sizeOf410
 v105:=Tryz.zeroValue410
 t116:=Tryz.underlying383
 a116:=Tryz.isAgg383
 z116:=Tryz.sizeOf383
 t117:=Tryz.underlying384
 a117:=Tryz.isAgg384
 z117:=Tryz.sizeOf384
 v117:=Tryz.zeroValue384
 t119:=Tryz.underlying437
 a119:=Tryz.isAgg437
 z119:=Tryz.sizeOf437
 t124:=Tryz.underlying387
 a124:=Tryz.isAgg387
 z124:=Tryz.sizeOf387
 v124:=Tryz.zeroValue387
 t138:=Tryz.underlying439
 a138:=Tryz.isAgg439
 z138:=Tryz.sizeOf439
 v138:=Tryz.zeroValue439
 t139:=Tryz.underlying440
 a139:=Tryz.isAgg440
 z139:=Tryz.sizeOf440
 v139:=Tryz.zeroValue440
 g3:=by kernel_rfl
 g4:=by kernel_rfl}
open Go.RowKit in
theorem Tryz.strings_TrimLeft_one(s:ByteArray)(c:UInt8)(hc:c.toNat<128)(w:World):
 Calls Tryz.prog 248 #[.string s,.string ⟨#[c]⟩] w λe w'=>e=.returned (.string ⟨(Lib.trimLeftB s.data.toList c).toArray⟩)/\w'=w:=Any.strings_TrimLeft_one Tryz.Nb s c hc w
def Tryz.xO:Go.Shelf.Ren:=⟨fun|162=>339|232=>297|227=>283|234=>298|236=>299|228=>309|271=>325|151=>311|120=>353|197=>310|152=>335|260=>334|137=>249|119=>356|224=>332|225=>331|217=>286|266=>312|n=>n,fun|9=>9|4=>4|3=>3|5=>5|117=>384|116=>383|0=>0|124=>387|21=>21|105=>410|46=>139|119=>437|139=>440|138=>439|n=>n,fun|3=>6|4=>7|n=>n⟩
theorem Tryz.Nc:Go.Proofs.Lays.n162 Tryz.prog Tryz.xO:={
 mixed:=by kernel_rfl
 f119:=Tryz.func356.trans (congrArg some (by kernel_rfl))
 f120:=Tryz.func353.trans (congrArg some (by kernel_rfl))
 f137:=Tryz.func249.trans (congrArg some (by kernel_rfl))
 f151:=Tryz.func311.trans (congrArg some (by kernel_rfl))
 f152:=Tryz.func335.trans (congrArg some (by kernel_rfl))
 f162:=Tryz.func339.trans (congrArg some (by kernel_rfl))
 f197:=Tryz.func310.trans (congrArg some (by kernel_rfl))
 f217:=Tryz.func286.trans (congrArg some (by kernel_rfl))
 f224:=Tryz.func332.trans (congrArg some (by kernel_rfl))
 f225:=Tryz.func331.trans (congrArg some (by kernel_rfl))
 f227:=Tryz.func283.trans (congrArg some (by kernel_rfl))
 f228:=Tryz.func309.trans (congrArg some (by kernel_rfl))
 f232:=Tryz.func297.trans (congrArg some (by kernel_rfl))
 f234:=Tryz.func298.trans (congrArg some (by kernel_rfl))
 f236:=Tryz.func299.trans (congrArg some (by kernel_rfl))
 f260:=Tryz.func334.trans (congrArg some (by kernel_rfl))
 f266:=Tryz.func312.trans (congrArg some (by kernel_rfl))
 f271:=Tryz.func325.trans (congrArg some (by kernel_rfl))
 t0:=Tryz.underlying0
 a0:=Tryz.isAgg0
 z0:=Tryz.sizeOf0
 v0:=Tryz.zeroValue0
 t3:=Tryz.underlying3
 a3:=Tryz.isAgg3
 z3:=Tryz.sizeOf3
 v3:=Tryz.zeroValue3
 t4:=Tryz.underlying4
 a4:=Tryz.isAgg4
 z4:=Tryz.sizeOf4
 v4:=Tryz.zeroValue4
 t5:=Tryz.underlying5
 a5:=Tryz.isAgg5
 z5:=Tryz.sizeOf5
 v5:=Tryz.zeroValue5
 t9:=Tryz.underlying9
 a9:=Tryz.isAgg9
 z9:=Tryz.sizeOf9
 v9:=Tryz.zeroValue9
 t21:=Tryz.underlying21
 a21:=Tryz.isAgg21
 z21:=Tryz.sizeOf21
 v21:=Tryz.zeroValue21
 t46:=Tryz.underlying139
 a46:=Tryz.isAgg139
 z46:=Tryz.sizeOf139
 v46:=Tryz.zeroValue139
 t105:=Tryz.underlying410
 a105:=Tryz.isAgg410
 z105:=Tryz.sizeOf410
 v105:=Tryz.zeroValue410
 t116:=Tryz.underlying383
 a116:=Tryz.isAgg383
 z116:=Tryz.sizeOf383
 t117:=Tryz.underlying384
 a117:=Tryz.isAgg384
 z117:=Tryz.sizeOf384
 v117:=Tryz.zeroValue384
 t119:=Tryz.underlying437
 a119:=Tryz.isAgg437
 z119:=Tryz.sizeOf437
 t124:=Tryz.underlying387
 a124:=Tryz.isAgg387
 z124:=Tryz.sizeOf387
 v124:=Tryz.zeroValue387
 t138:=Tryz.underlying439
 a138:=Tryz.isAgg439
 z138:=Tryz.sizeOf439
 v138:=Tryz.zeroValue439
 t139:=Tryz.underlying440
 a139:=Tryz.isAgg440
 z139:=Tryz.sizeOf440
 v139:=Tryz.zeroValue440
 g3:=by kernel_rfl
 g4:=by kernel_rfl}
open Go.RowKit in
theorem Tryz.strings_TrimRight_one(s:ByteArray)(c:UInt8)(hc:c.toNat<128)(w:World)(hs:s.size<=9223372036854775807):
 Calls Tryz.prog 339 #[.string s,.string ⟨#[c]⟩] w λe w'=>e=.returned (.string ⟨(Lib.trimRightB s.data.toList c).toArray⟩)/\w'=w:=Any.strings_TrimRight_one Tryz.Nc s c hc w hs
def Tryz.xP:Go.Shelf.Ren:=⟨fun|160=>272|232=>297|231=>282|227=>283|234=>298|233=>284|236=>299|235=>285|228=>309|271=>325|151=>311|197=>310|120=>353|152=>335|260=>334|137=>249|119=>356|224=>332|225=>331|217=>286|266=>312|n=>n,fun|9=>9|4=>4|3=>3|5=>5|117=>384|116=>383|0=>0|124=>387|21=>21|105=>410|46=>139|119=>437|139=>440|138=>439|n=>n,fun|3=>6|4=>7|n=>n⟩
theorem Tryz.Nf:Go.Proofs.Lays.n160 Tryz.prog Tryz.xP:={
 mixed:=by kernel_rfl
 f119:=Tryz.func356.trans (congrArg some (by kernel_rfl))
 f120:=Tryz.func353.trans (congrArg some (by kernel_rfl))
 f137:=Tryz.func249.trans (congrArg some (by kernel_rfl))
 f151:=Tryz.func311.trans (congrArg some (by kernel_rfl))
 f152:=Tryz.func335.trans (congrArg some (by kernel_rfl))
 f160:=Tryz.func272.trans (congrArg some (by kernel_rfl))
 f197:=Tryz.func310.trans (congrArg some (by kernel_rfl))
 f217:=Tryz.func286.trans (congrArg some (by kernel_rfl))
 f224:=Tryz.func332.trans (congrArg some (by kernel_rfl))
 f225:=Tryz.func331.trans (congrArg some (by kernel_rfl))
 f227:=Tryz.func283.trans (congrArg some (by kernel_rfl))
 f228:=Tryz.func309.trans (congrArg some (by kernel_rfl))
 f231:=Tryz.func282.trans (congrArg some (by kernel_rfl))
 f232:=Tryz.func297.trans (congrArg some (by kernel_rfl))
 f233:=Tryz.func284.trans (congrArg some (by kernel_rfl))
 f234:=Tryz.func298.trans (congrArg some (by kernel_rfl))
 f235:=Tryz.func285.trans (congrArg some (by kernel_rfl))
 f236:=Tryz.func299.trans (congrArg some (by kernel_rfl))
 f260:=Tryz.func334.trans (congrArg some (by kernel_rfl))
 f266:=Tryz.func312.trans (congrArg some (by kernel_rfl))
 f271:=Tryz.func325.trans (congrArg some (by kernel_rfl))
 t0:=Tryz.underlying0
 a0:=Tryz.isAgg0
 z0:=Tryz.sizeOf0
 v0:=Tryz.zeroValue0
 t3:=Tryz.underlying3
 a3:=Tryz.isAgg3
 z3:=Tryz.sizeOf3
 v3:=Tryz.zeroValue3
 t4:=Tryz.underlying4
 a4:=Tryz.isAgg4
 z4:=Tryz.sizeOf4
 v4:=Tryz.zeroValue4
 t5:=Tryz.underlying5
 a5:=Tryz.isAgg5
 z5:=Tryz.sizeOf5
 v5:=Tryz.zeroValue5
 t9:=Tryz.underlying9
 a9:=Tryz.isAgg9
 z9:=Tryz.sizeOf9
 v9:=Tryz.zeroValue9
 t21:=Tryz.underlying21
 a21:=Tryz.isAgg21
 z21:=Tryz.sizeOf21
 v21:=Tryz.zeroValue21
 t46:=Tryz.underlying139
 a46:=Tryz.isAgg139
 z46:=Tryz.sizeOf139
 v46:=Tryz.zeroValue139
 t105:=Tryz.underlying410
 a105:=Tryz.isAgg410
 z105:=Tryz.sizeOf410
 v105:=Tryz.zeroValue410
 t116:=Tryz.underlying383
 a116:=Tryz.isAgg383
 z116:=Tryz.sizeOf383
 t117:=Tryz.underlying384
 a117:=Tryz.isAgg384
 z117:=Tryz.sizeOf384
 v117:=Tryz.zeroValue384
 t119:=Tryz.underlying437
 a119:=Tryz.isAgg437
 z119:=Tryz.sizeOf437
 t124:=Tryz.underlying387
 a124:=Tryz.isAgg387
 z124:=Tryz.sizeOf387
 v124:=Tryz.zeroValue387
 t138:=Tryz.underlying439
 a138:=Tryz.isAgg439
 z138:=Tryz.sizeOf439
 v138:=Tryz.zeroValue439
 t139:=Tryz.underlying440
 a139:=Tryz.isAgg440
 z139:=Tryz.sizeOf440
 v139:=Tryz.zeroValue440
 g3:=by kernel_rfl
 g4:=by kernel_rfl}
def Tryz.P5:Go.Shelf.Ren:=⟨fun|213=>224|265=>269|n=>n,fun|9=>9|3=>3|n=>n,fun|n=>n⟩
def Tryz.xQ:Go.Shelf.Ren:=⟨fun|106=>168|213=>224|265=>269|n=>n,fun|9=>9|3=>3|n=>n,fun|n=>n⟩
theorem Tryz.Ng:Go.Proofs.Lays.n106 Tryz.prog Tryz.xQ:={
 mixed:=by kernel_rfl
 f106:=Tryz.func168.trans (congrArg some (by kernel_rfl))
 f213:=Tryz.func224.trans (congrArg some (by kernel_rfl))
 f265:=Tryz.func269.trans (congrArg some (by kernel_rfl))
 t3:=Tryz.underlying3
 a3:=Tryz.isAgg3
 z3:=Tryz.sizeOf3
 v3:=Tryz.zeroValue3
 t9:=Tryz.underlying9
 a9:=Tryz.isAgg9
 z9:=Tryz.sizeOf9
 v9:=Tryz.zeroValue9}
open Go.RowKit in
theorem Tryz.strings_Compare(a b:ByteArray)(w:World):
 Calls Tryz.prog 168 #[.string a,.string b] w λe w'=>e=.returned (.int .i64 (Lib.compareBytes a.data.toList b.data.toList))/\w'=w:=Any.strings_Compare Tryz.Ng a b w
def Tryz.xR:Go.Shelf.Ren:=⟨fun|137=>249|217=>286|266=>312|n=>n,fun|9=>9|5=>5|3=>3|n=>n,fun|n=>n⟩
theorem Tryz.Nh:Go.Proofs.Lays.n137 Tryz.prog Tryz.xR:={
 mixed:=by kernel_rfl
 f137:=Tryz.func249.trans (congrArg some (by kernel_rfl))
 f217:=Tryz.func286.trans (congrArg some (by kernel_rfl))
 f266:=Tryz.func312.trans (congrArg some (by kernel_rfl))
 t3:=Tryz.underlying3
 a3:=Tryz.isAgg3
 z3:=Tryz.sizeOf3
 v3:=Tryz.zeroValue3
 t5:=Tryz.underlying5
 a5:=Tryz.isAgg5
 z5:=Tryz.sizeOf5
 v5:=Tryz.zeroValue5
 t9:=Tryz.underlying9
 a9:=Tryz.isAgg9
 z9:=Tryz.sizeOf9
 v9:=Tryz.zeroValue9}
open Go.RowKit in
theorem Tryz.strings_IndexByte(s:ByteArray)(c:Int)(w:World):
 Calls Tryz.prog 249 #[.string s,.int .u8 c] w λe w'=>e=.returned (.int .i64 (Lib.indexByte s.data.toList c.toNat.toUInt8))/\w'=w:=Any.strings_IndexByte Tryz.Nh s c w
def Tryz.P6:Go.Shelf.Ren:=⟨fun|211=>341|207=>330|n=>n,fun|9=>9|4=>4|3=>3|n=>n,fun|n=>n⟩
def Tryz.xS:Go.Shelf.Ren:=⟨fun|104=>316|211=>341|207=>330|n=>n,fun|9=>9|4=>4|24=>257|3=>3|n=>n,fun|n=>n⟩
theorem Tryz.Ni:Go.Proofs.Lays.n104 Tryz.prog Tryz.xS:={
 mixed:=by kernel_rfl
 f104:=Tryz.func316.trans (congrArg some (by kernel_rfl))
 f207:=Tryz.func330.trans (congrArg some (by kernel_rfl))
 f211:=Tryz.func341.trans (congrArg some (by kernel_rfl))
 t3:=Tryz.underlying3
 a3:=Tryz.isAgg3
 z3:=Tryz.sizeOf3
 v3:=Tryz.zeroValue3
 t4:=Tryz.underlying4
 a4:=Tryz.isAgg4
 z4:=Tryz.sizeOf4
 v4:=Tryz.zeroValue4
 t9:=Tryz.underlying9
 a9:=Tryz.isAgg9
 z9:=Tryz.sizeOf9
 v9:=Tryz.zeroValue9
 t24:=Tryz.underlying257
 a24:=Tryz.isAgg257
 z24:=Tryz.sizeOf257
 v24:=Tryz.zeroValue257}
open Go.RowKit in
theorem Tryz.strings_CutSuffix(s p:ByteArray)(w:World)(hs:s.size<=9223372036854775807):
 Calls Tryz.prog 316 #[.string s,.string p] w λe w'=>e=.returned (.tuple #[.string ⟨(Lib.trimSuffix s.data.toList p.data.toList).toArray⟩,.bool (Lib.hasSuffix s.data.toList p.data.toList)])/\w'=w:=Any.strings_CutSuffix Tryz.Ni s p w hs
def Tryz.xU:Go.Shelf.Ren:=⟨fun|283=>198|n=>n,fun|3=>3|9=>9|4=>4|n=>n,fun|n=>n⟩
theorem Tryz.Nj:Go.Proofs.Lays.n283 Tryz.prog Tryz.xU:={
 mixed:=by kernel_rfl
 f283:=Tryz.func198.trans (congrArg some (by kernel_rfl))
 t3:=Tryz.underlying3
 a3:=Tryz.isAgg3
 z3:=Tryz.sizeOf3
 v3:=Tryz.zeroValue3
 t4:=Tryz.underlying4
 a4:=Tryz.isAgg4
 z4:=Tryz.sizeOf4
 v4:=Tryz.zeroValue4
 t9:=Tryz.underlying9
 a9:=Tryz.isAgg9
 z9:=Tryz.sizeOf9
 v9:=Tryz.zeroValue9}
open Go.Lib in
theorem Tryz.internal_strconv_small(i:Nat)(h:i<100)(w:World):
 Calls Tryz.prog 198 #[.int .i64 i] w λe w'=>e=.returned (.string ⟨(Lib.decDigits i).toArray⟩)/\w'=w:=Any.internal_strconv_small Tryz.Nj i h w
def Tryz.Nk:Go.Shelf.Ren:=⟨fun|245=>274|279=>302|280=>303|281=>304|282=>305|316=>326|171=>328|205=>327|243=>354|246=>362|283=>198|284=>199|285=>200|286=>201|129=>242|317=>241|318=>243|319=>244|320=>245|337=>278|338=>279|n=>n,fun|9=>9|3=>3|75=>336|167=>399|4=>4|168=>401|210=>424|37=>118|0=>0|127=>398|145=>435|143=>433|2=>2|171=>307|53=>46|5=>5|173=>308|212=>350|51=>48|20=>20|213=>351|46=>139|232=>407|233=>408|80=>360|n=>n,fun|15=>4|16=>5|17=>0|18=>2|19=>3|n=>n⟩
def Tryz.uZ:Go.Shelf.Ren:=⟨fun|174=>364|247=>367|245=>274|287=>273|279=>302|280=>303|281=>304|282=>305|321=>300|322=>301|316=>326|171=>328|205=>327|243=>354|246=>362|283=>198|284=>199|285=>200|286=>201|129=>242|317=>241|318=>243|319=>244|320=>245|337=>278|338=>279|n=>n,fun|9=>9|3=>3|2=>2|75=>336|85=>443|4=>4|167=>399|5=>5|53=>46|175=>337|46=>139|168=>401|37=>118|0=>0|210=>424|21=>21|127=>398|145=>435|143=>433|171=>307|173=>308|212=>350|51=>48|20=>20|213=>351|232=>407|233=>408|80=>360|n=>n,fun|15=>4|16=>5|17=>0|18=>2|19=>3|n=>n⟩
theorem Tryz.xV:Go.Proofs.LaysC.n174 Tryz.prog Tryz.uZ:={
 mixed:=by kernel_rfl
 f129:=Tryz.func242.trans (congrArg some (by kernel_rfl))
 f171:=Tryz.func328.trans (congrArg some (by kernel_rfl))
 f174:=Tryz.func364.trans (congrArg some (by kernel_rfl))
 f205:=Tryz.func327.trans (congrArg some (by kernel_rfl))
 f243:=Tryz.func354.trans (congrArg some (by kernel_rfl))
 f245:=Tryz.func274.trans (congrArg some (by kernel_rfl))
 f246:=Tryz.func362.trans (congrArg some (by kernel_rfl))
 f247:=Tryz.func367.trans (congrArg some (by kernel_rfl))
 f279:=Tryz.func302.trans (congrArg some (by kernel_rfl))
 f280:=Tryz.func303.trans (congrArg some (by kernel_rfl))
 f281:=Tryz.func304.trans (congrArg some (by kernel_rfl))
 f282:=Tryz.func305.trans (congrArg some (by kernel_rfl))
 f283:=Tryz.func198.trans (congrArg some (by kernel_rfl))
 f284:=Tryz.func199.trans (congrArg some (by kernel_rfl))
 f285:=Tryz.func200.trans (congrArg some (by kernel_rfl))
 f286:=Tryz.func201.trans (congrArg some (by kernel_rfl))
 f287:=Tryz.func273.trans (congrArg some (by kernel_rfl))
 f316:=Tryz.func326.trans (congrArg some (by kernel_rfl))
 f317:=Tryz.func241.trans (congrArg some (by kernel_rfl))
 f318:=Tryz.func243.trans (congrArg some (by kernel_rfl))
 f319:=Tryz.func244.trans (congrArg some (by kernel_rfl))
 f320:=Tryz.func245.trans (congrArg some (by kernel_rfl))
 f321:=Tryz.func300.trans (congrArg some (by kernel_rfl))
 f322:=Tryz.func301.trans (congrArg some (by kernel_rfl))
 f337:=Tryz.func278.trans (congrArg some (by kernel_rfl))
 f338:=Tryz.func279.trans (congrArg some (by kernel_rfl))
 t0:=Tryz.underlying0
 a0:=Tryz.isAgg0
 z0:=Tryz.sizeOf0
 v0:=Tryz.zeroValue0
 t2:=Tryz.underlying2
 a2:=Tryz.isAgg2
 z2:=Tryz.sizeOf2
 v2:=Tryz.zeroValue2
 t3:=Tryz.underlying3
 a3:=Tryz.isAgg3
 z3:=Tryz.sizeOf3
 v3:=Tryz.zeroValue3
 t4:=Tryz.underlying4
 a4:=Tryz.isAgg4
 z4:=Tryz.sizeOf4
 v4:=Tryz.zeroValue4
 t5:=Tryz.underlying5
 a5:=Tryz.isAgg5
 z5:=Tryz.sizeOf5
 v5:=Tryz.zeroValue5
 t9:=Tryz.underlying9
 a9:=Tryz.isAgg9
 z9:=Tryz.sizeOf9
 v9:=Tryz.zeroValue9
 t20:=Tryz.underlying20
 a20:=Tryz.isAgg20
 z20:=Tryz.sizeOf20
 v20:=Tryz.zeroValue20
 t21:=Tryz.underlying21
 a21:=Tryz.isAgg21
 z21:=Tryz.sizeOf21
 v21:=Tryz.zeroValue21
 t37:=Tryz.underlying118
 a37:=Tryz.isAgg118
 z37:=Tryz.sizeOf118
 v37:=Tryz.zeroValue118
 t46:=Tryz.underlying139
 a46:=Tryz.isAgg139
 z46:=Tryz.sizeOf139
 v46:=Tryz.zeroValue139
 t51:=Tryz.underlying48
 a51:=Tryz.isAgg48
 z51:=Tryz.sizeOf48
 v51:=Tryz.zeroValue48
 t53:=Tryz.underlying46
 a53:=Tryz.isAgg46
 z53:=Tryz.sizeOf46
 v53:=Tryz.zeroValue46
 t75:=Tryz.underlying336
 a75:=Tryz.isAgg336
 z75:=Tryz.sizeOf336
 v75:=Tryz.zeroValue336
 t85:=Tryz.underlying443
 a85:=Tryz.isAgg443
 z85:=Tryz.sizeOf443
 v85:=Tryz.zeroValue443
 t127:=Tryz.underlying398
 a127:=Tryz.isAgg398
 z127:=Tryz.sizeOf398
 v127:=Tryz.zeroValue398
 t143:=Tryz.underlying433
 a143:=Tryz.isAgg433
 z143:=Tryz.sizeOf433
 v143:=Tryz.zeroValue433
 t145:=Tryz.underlying435
 a145:=Tryz.isAgg435
 z145:=Tryz.sizeOf435
 v145:=Tryz.zeroValue435
 t167:=Tryz.underlying399
 a167:=Tryz.isAgg399
 z167:=Tryz.sizeOf399
 v167:=Tryz.zeroValue399
 t168:=Tryz.underlying401
 a168:=Tryz.isAgg401
 z168:=Tryz.sizeOf401
 v168:=Tryz.zeroValue401
 t171:=Tryz.underlying307
 a171:=Tryz.isAgg307
 z171:=Tryz.sizeOf307
 v171:=Tryz.zeroValue307
 t173:=Tryz.underlying308
 a173:=Tryz.isAgg308
 z173:=Tryz.sizeOf308
 v173:=Tryz.zeroValue308
 t175:=Tryz.underlying337
 a175:=Tryz.isAgg337
 z175:=Tryz.sizeOf337
 v175:=Tryz.zeroValue337
 t210:=Tryz.underlying424
 a210:=Tryz.isAgg424
 z210:=Tryz.sizeOf424
 v210:=Tryz.zeroValue424
 t212:=Tryz.underlying350
 a212:=Tryz.isAgg350
 z212:=Tryz.sizeOf350
 v212:=Tryz.zeroValue350
 t213:=Tryz.underlying351
 a213:=Tryz.isAgg351
 z213:=Tryz.sizeOf351
 t232:=Tryz.underlying407
 a232:=Tryz.isAgg407
 z232:=Tryz.sizeOf407
 v232:=Tryz.zeroValue407
 t233:=Tryz.underlying408
 a233:=Tryz.isAgg408
 z233:=Tryz.sizeOf408
 v233:=Tryz.zeroValue408
 g15:=by kernel_rfl
 g16:=by kernel_rfl
 g17:=by kernel_rfl
 g18:=by kernel_rfl
 g19:=by kernel_rfl
 t80:=Tryz.underlying360
 a80:=Tryz.isAgg360
 z80:=Tryz.sizeOf360
 v80:=Tryz.zeroValue360
 i0:=by kernel_rfl
 i2:=by kernel_rfl
 i3:=by kernel_rfl
 i4:=by kernel_rfl
 i5:=by kernel_rfl
 i9:=by kernel_rfl
 i20:=by kernel_rfl
 i21:=by kernel_rfl
 i37:=by kernel_rfl
 i46:=by kernel_rfl
 i51:=by kernel_rfl
 i53:=by kernel_rfl
 i75:=by kernel_rfl
 i80:=by kernel_rfl
 i85:=by kernel_rfl
 i127:=by kernel_rfl
 i143:=by kernel_rfl
 i145:=by kernel_rfl
 i167:=by kernel_rfl
 i168:=by kernel_rfl
 i171:=by kernel_rfl
 i173:=by kernel_rfl
 i175:=by kernel_rfl
 i210:=by kernel_rfl
 i212:=by kernel_rfl
 i232:=by kernel_rfl
 i233:=by kernel_rfl
 m15:=by kernel_rfl
 m16:=by kernel_rfl
 m17:=by kernel_rfl
 m18:=by kernel_rfl
 m19:=by kernel_rfl
 c0:=by kernel_rfl
 c2:=by kernel_rfl
 c3:=by kernel_rfl
 c4:=by kernel_rfl
 c5:=by kernel_rfl
 c9:=by kernel_rfl
 c20:=by kernel_rfl
 c21:=by kernel_rfl
 c37:=by kernel_rfl
 c46:=by kernel_rfl
 c51:=by kernel_rfl
 c53:=by kernel_rfl
 c75:=by kernel_rfl
 c80:=by kernel_rfl
 c85:=by kernel_rfl
 c127:=by kernel_rfl
 c143:=by kernel_rfl
 c145:=by kernel_rfl
 c167:=by kernel_rfl
 c168:=by kernel_rfl
 c171:=by kernel_rfl
 c173:=by kernel_rfl
 c175:=by kernel_rfl
 c210:=by kernel_rfl
 c212:=by kernel_rfl
 c213:=by kernel_rfl
 c232:=by kernel_rfl
 c233:=by kernel_rfl}
open Go.RowKit in
theorem Tryz.strconv_ParseInt_10_at64_ok(s:ByteArray)(hmax:s.size<=9223372036854775806)(v:Int)(h:Lib.parseIntB 64 s.data.toList=.ok v)(w:World):
 Calls Tryz.prog 364 #[.string s,.int .i64 10,.int .i64 64] w λe w'=>e=.returned (.tuple #[.int .i64 v,.nilIface])/\(w'=w\/∃t,w'=Lib.bytesWorld w 5 t):=Any.strconv_ParseInt_10_at64_ok Tryz.xV s hmax v h w
open Go.RowKit in
theorem Tryz.strconv_ParseInt_10_at64_range(s:ByteArray)(hlim:s.size<=281474976710656)(h:Lib.parseIntB 64 s.data.toList=.range)(ev:Value)(w:World)(hv:w.cell? ⟨5,0,none⟩=some ev)(hev:ev=.nilIface\/∃te pe,ev=.iface te pe):
 Calls Tryz.prog 364 #[.string s,.int .i64 10,.int .i64 64] w λe w'=> ∃N,e=.returned (.tuple #[.int .i64 (Lib.intSat 64 s.data.toList),.iface 401 (.pointer (some ⟨N,0,none⟩))])/\w.heap.size<=N/\w'.heap[N]?=some (.cells #[.string ⟨#[80,97,114,115,101,73,110,116]⟩,.string s,ev] 424 (0,0))/\Below w.heap.size w w':=Any.strconv_ParseInt_10_at64_range Tryz.xV s hlim h ev w hv hev
def Tryz.u_:Go.Shelf.Ren:=⟨fun|14=>227|16=>273|17=>274|19=>300|20=>301|21=>302|22=>303|23=>304|24=>305|25=>326|27=>328|26=>327|28=>354|29=>362|30=>198|31=>199|32=>200|33=>201|35=>242|34=>241|36=>243|37=>244|38=>245|39=>278|40=>279|n=>n,fun|9=>9|3=>3|22=>46|24=>336|25=>337|4=>4|34=>399|5=>5|36=>139|37=>118|0=>0|39=>401|21=>21|44=>424|47=>398|50=>435|48=>433|2=>2|52=>307|55=>308|59=>350|60=>48|20=>20|61=>351|65=>407|66=>408|67=>360|n=>n,fun|0=>4|1=>5|2=>0|3=>2|4=>3|n=>n⟩
theorem Tryz.xW:Go.Proofs.LaysPu.n14 Tryz.prog Tryz.u_:={
 mixed:=by kernel_rfl
 f14:=Tryz.func227.trans (congrArg some (by kernel_rfl))
 f16:=Tryz.func273.trans (congrArg some (by kernel_rfl))
 f17:=Tryz.func274.trans (congrArg some (by kernel_rfl))
 f19:=Tryz.func300.trans (congrArg some (by kernel_rfl))
 f20:=Tryz.func301.trans (congrArg some (by kernel_rfl))
 f21:=Tryz.func302.trans (congrArg some (by kernel_rfl))
 f22:=Tryz.func303.trans (congrArg some (by kernel_rfl))
 f23:=Tryz.func304.trans (congrArg some (by kernel_rfl))
 f24:=Tryz.func305.trans (congrArg some (by kernel_rfl))
 f25:=Tryz.func326.trans (congrArg some (by kernel_rfl))
 f26:=Tryz.func327.trans (congrArg some (by kernel_rfl))
 f27:=Tryz.func328.trans (congrArg some (by kernel_rfl))
 f28:=Tryz.func354.trans (congrArg some (by kernel_rfl))
 f29:=Tryz.func362.trans (congrArg some (by kernel_rfl))
 f30:=Tryz.func198.trans (congrArg some (by kernel_rfl))
 f31:=Tryz.func199.trans (congrArg some (by kernel_rfl))
 f32:=Tryz.func200.trans (congrArg some (by kernel_rfl))
 f33:=Tryz.func201.trans (congrArg some (by kernel_rfl))
 f34:=Tryz.func241.trans (congrArg some (by kernel_rfl))
 f35:=Tryz.func242.trans (congrArg some (by kernel_rfl))
 f36:=Tryz.func243.trans (congrArg some (by kernel_rfl))
 f37:=Tryz.func244.trans (congrArg some (by kernel_rfl))
 f38:=Tryz.func245.trans (congrArg some (by kernel_rfl))
 f39:=Tryz.func278.trans (congrArg some (by kernel_rfl))
 f40:=Tryz.func279.trans (congrArg some (by kernel_rfl))
 t0:=Tryz.underlying0
 a0:=Tryz.isAgg0
 z0:=Tryz.sizeOf0
 v0:=Tryz.zeroValue0
 i0:=by kernel_rfl
 t2:=Tryz.underlying2
 a2:=Tryz.isAgg2
 z2:=Tryz.sizeOf2
 v2:=Tryz.zeroValue2
 i2:=by kernel_rfl
 t3:=Tryz.underlying3
 a3:=Tryz.isAgg3
 z3:=Tryz.sizeOf3
 v3:=Tryz.zeroValue3
 i3:=by kernel_rfl
 t4:=Tryz.underlying4
 a4:=Tryz.isAgg4
 z4:=Tryz.sizeOf4
 v4:=Tryz.zeroValue4
 i4:=by kernel_rfl
 t5:=Tryz.underlying5
 a5:=Tryz.isAgg5
 z5:=Tryz.sizeOf5
 v5:=Tryz.zeroValue5
 i5:=by kernel_rfl
 t9:=Tryz.underlying9
 a9:=Tryz.isAgg9
 z9:=Tryz.sizeOf9
 v9:=Tryz.zeroValue9
 i9:=by kernel_rfl
 t20:=Tryz.underlying20
 a20:=Tryz.isAgg20
 z20:=Tryz.sizeOf20
 v20:=Tryz.zeroValue20
 i20:=by kernel_rfl
 t21:=Tryz.underlying21
 a21:=Tryz.isAgg21
 z21:=Tryz.sizeOf21
 v21:=Tryz.zeroValue21
 i21:=by kernel_rfl
 t22:=Tryz.underlying46
 a22:=Tryz.isAgg46
 z22:=Tryz.sizeOf46
 v22:=Tryz.zeroValue46
 i22:=by kernel_rfl
 t24:=Tryz.underlying336
 a24:=Tryz.isAgg336
 z24:=Tryz.sizeOf336
 v24:=Tryz.zeroValue336
 i24:=by kernel_rfl
 t25:=Tryz.underlying337
 a25:=Tryz.isAgg337
 z25:=Tryz.sizeOf337
 v25:=Tryz.zeroValue337
 i25:=by kernel_rfl
 t34:=Tryz.underlying399
 a34:=Tryz.isAgg399
 z34:=Tryz.sizeOf399
 v34:=Tryz.zeroValue399
 i34:=by kernel_rfl
 c34:=by kernel_rfl
 t36:=Tryz.underlying139
 a36:=Tryz.isAgg139
 z36:=Tryz.sizeOf139
 v36:=Tryz.zeroValue139
 i36:=by kernel_rfl
 t37:=Tryz.underlying118
 a37:=Tryz.isAgg118
 z37:=Tryz.sizeOf118
 v37:=Tryz.zeroValue118
 i37:=by kernel_rfl
 t39:=Tryz.underlying401
 a39:=Tryz.isAgg401
 z39:=Tryz.sizeOf401
 v39:=Tryz.zeroValue401
 i39:=by kernel_rfl
 t44:=Tryz.underlying424
 a44:=Tryz.isAgg424
 z44:=Tryz.sizeOf424
 v44:=Tryz.zeroValue424
 i44:=by kernel_rfl
 t47:=Tryz.underlying398
 a47:=Tryz.isAgg398
 z47:=Tryz.sizeOf398
 v47:=Tryz.zeroValue398
 i47:=by kernel_rfl
 t48:=Tryz.underlying433
 a48:=Tryz.isAgg433
 z48:=Tryz.sizeOf433
 v48:=Tryz.zeroValue433
 i48:=by kernel_rfl
 t50:=Tryz.underlying435
 a50:=Tryz.isAgg435
 z50:=Tryz.sizeOf435
 v50:=Tryz.zeroValue435
 i50:=by kernel_rfl
 t52:=Tryz.underlying307
 a52:=Tryz.isAgg307
 z52:=Tryz.sizeOf307
 v52:=Tryz.zeroValue307
 i52:=by kernel_rfl
 t55:=Tryz.underlying308
 a55:=Tryz.isAgg308
 z55:=Tryz.sizeOf308
 v55:=Tryz.zeroValue308
 i55:=by kernel_rfl
 t59:=Tryz.underlying350
 a59:=Tryz.isAgg350
 z59:=Tryz.sizeOf350
 v59:=Tryz.zeroValue350
 i59:=by kernel_rfl
 t60:=Tryz.underlying48
 a60:=Tryz.isAgg48
 z60:=Tryz.sizeOf48
 v60:=Tryz.zeroValue48
 i60:=by kernel_rfl
 t61:=Tryz.underlying351
 a61:=Tryz.isAgg351
 z61:=Tryz.sizeOf351
 t65:=Tryz.underlying407
 a65:=Tryz.isAgg407
 z65:=Tryz.sizeOf407
 v65:=Tryz.zeroValue407
 i65:=by kernel_rfl
 t66:=Tryz.underlying408
 a66:=Tryz.isAgg408
 z66:=Tryz.sizeOf408
 v66:=Tryz.zeroValue408
 i66:=by kernel_rfl
 t67:=Tryz.underlying360
 a67:=Tryz.isAgg360
 z67:=Tryz.sizeOf360
 v67:=Tryz.zeroValue360
 i67:=by kernel_rfl
 g0:=by kernel_rfl
 m0:=by kernel_rfl
 g1:=by kernel_rfl
 m1:=by kernel_rfl
 g2:=by kernel_rfl
 m2:=by kernel_rfl
 g3:=by kernel_rfl
 m3:=by kernel_rfl
 g4:=by kernel_rfl
 m4:=by kernel_rfl}
open Go.RowKit in
theorem Tryz.strconv_ParseUint_10_at64_ok(s:ByteArray)(hmax:s.size<=9223372036854775806)(u:Nat)(h:Lib.parseUintB 64 s.data.toList=.ok u)(w:World):
 Calls Tryz.prog 227 #[.string s,.int .i64 10,.int .i64 64] w λe w'=>e=.returned (.tuple #[.int .u64 u,.nilIface])/\(w'=w\/w'=Lib.bytesWorld w 5 s):=Any.strconv_ParseUint_10_at64_ok Tryz.xW s hmax u h w
open Go.RowKit in
theorem Tryz.strconv_ParseUint_10_at64_range(s:ByteArray)(hlim:s.size<=281474976710656)(h:Lib.parseUintB 64 s.data.toList=.range)(ev:Value)(w:World)(hv:w.cell? ⟨5,0,none⟩=some ev)(hev:ev=.nilIface\/∃te pe,ev=.iface te pe):
 Calls Tryz.prog 227 #[.string s,.int .i64 10,.int .i64 64] w λe w'=> ∃N,e=.returned (.tuple #[.int .u64 18446744073709551615,.iface 401 (.pointer (some ⟨N,0,none⟩))])/\w.heap.size<=N/\w'.heap[N]?=some (.cells #[.string ⟨#[80,97,114,115,101,85,105,110,116]⟩,.string s,ev] 424 (0,0))/\Below w.heap.size w w':=Any.strconv_ParseUint_10_at64_range Tryz.xW s hlim h ev w hv hev
def Tryz.xX:Go.Shelf.Ren:=⟨fun|219=>308|217=>286|225=>331|224=>332|267=>333|266=>312|314=>355|n=>n,fun|9=>9|3=>3|4=>4|5=>5|46=>139|146=>248|51=>48|n=>n,fun|1=>1|n=>n⟩
theorem Tryz.Nl:Go.Proofs.Lays.n219 Tryz.prog Tryz.xX:={
 mixed:=by kernel_rfl
 f217:=Tryz.func286.trans (congrArg some (by kernel_rfl))
 f219:=Tryz.func308.trans (congrArg some (by kernel_rfl))
 f224:=Tryz.func332.trans (congrArg some (by kernel_rfl))
 f225:=Tryz.func331.trans (congrArg some (by kernel_rfl))
 f266:=Tryz.func312.trans (congrArg some (by kernel_rfl))
 f267:=Tryz.func333.trans (congrArg some (by kernel_rfl))
 f314:=Tryz.func355.trans (congrArg some (by kernel_rfl))
 t3:=Tryz.underlying3
 a3:=Tryz.isAgg3
 z3:=Tryz.sizeOf3
 v3:=Tryz.zeroValue3
 t4:=Tryz.underlying4
 a4:=Tryz.isAgg4
 z4:=Tryz.sizeOf4
 v4:=Tryz.zeroValue4
 t5:=Tryz.underlying5
 a5:=Tryz.isAgg5
 z5:=Tryz.sizeOf5
 v5:=Tryz.zeroValue5
 t9:=Tryz.underlying9
 a9:=Tryz.isAgg9
 z9:=Tryz.sizeOf9
 v9:=Tryz.zeroValue9
 t46:=Tryz.underlying139
 a46:=Tryz.isAgg139
 z46:=Tryz.sizeOf139
 v46:=Tryz.zeroValue139
 t51:=Tryz.underlying48
 a51:=Tryz.isAgg48
 z51:=Tryz.sizeOf48
 v51:=Tryz.zeroValue48
 t146:=Tryz.underlying248
 a146:=Tryz.isAgg248
 z146:=Tryz.sizeOf248
 v146:=Tryz.zeroValue248
 g1:=by kernel_rfl}
open Go.RowKit Go.Lib in
theorem Tryz.stringslite_Index_one(s:ByteArray)(c:UInt8)(w:World):
 Calls Tryz.prog 308 #[.string s,.string ⟨#[c]⟩] w λe w'=>e=.returned (.int .i64 (Lib.indexByte s.data.toList c))/\w'=w:=Any.stringslite_Index_one Tryz.Nl s c w
def Tryz.xY:Go.Shelf.Ren:=⟨fun|143=>357|219=>308|217=>286|225=>331|224=>332|267=>333|266=>312|314=>355|n=>n,fun|9=>9|3=>3|4=>4|5=>5|46=>139|146=>248|51=>48|n=>n,fun|1=>1|n=>n⟩
theorem Tryz.Nn:Go.Proofs.Lays.n143 Tryz.prog Tryz.xY:={
 mixed:=by kernel_rfl
 f143:=Tryz.func357.trans (congrArg some (by kernel_rfl))
 f217:=Tryz.func286.trans (congrArg some (by kernel_rfl))
 f219:=Tryz.func308.trans (congrArg some (by kernel_rfl))
 f224:=Tryz.func332.trans (congrArg some (by kernel_rfl))
 f225:=Tryz.func331.trans (congrArg some (by kernel_rfl))
 f266:=Tryz.func312.trans (congrArg some (by kernel_rfl))
 f267:=Tryz.func333.trans (congrArg some (by kernel_rfl))
 f314:=Tryz.func355.trans (congrArg some (by kernel_rfl))
 t3:=Tryz.underlying3
 a3:=Tryz.isAgg3
 z3:=Tryz.sizeOf3
 v3:=Tryz.zeroValue3
 t4:=Tryz.underlying4
 a4:=Tryz.isAgg4
 z4:=Tryz.sizeOf4
 v4:=Tryz.zeroValue4
 t5:=Tryz.underlying5
 a5:=Tryz.isAgg5
 z5:=Tryz.sizeOf5
 v5:=Tryz.zeroValue5
 t9:=Tryz.underlying9
 a9:=Tryz.isAgg9
 z9:=Tryz.sizeOf9
 v9:=Tryz.zeroValue9
 t46:=Tryz.underlying139
 a46:=Tryz.isAgg139
 z46:=Tryz.sizeOf139
 v46:=Tryz.zeroValue139
 t51:=Tryz.underlying48
 a51:=Tryz.isAgg48
 z51:=Tryz.sizeOf48
 v51:=Tryz.zeroValue48
 t146:=Tryz.underlying248
 a146:=Tryz.isAgg248
 z146:=Tryz.sizeOf248
 v146:=Tryz.zeroValue248
 g1:=by kernel_rfl}
open Go.RowKit Go.Lib in
theorem Tryz.strings_Index_one(s:ByteArray)(c:UInt8)(w:World):
 Calls Tryz.prog 357 #[.string s,.string ⟨#[c]⟩] w λe w'=>e=.returned (.int .i64 (Lib.indexByte s.data.toList c))/\w'=w:=Any.strings_Index_one Tryz.Nn s c w
def Tryz.xZ:Go.Shelf.Ren:=⟨fun|144=>337|143=>357|219=>308|217=>286|225=>331|224=>332|267=>333|266=>312|314=>355|n=>n,fun|9=>9|4=>4|3=>3|5=>5|46=>139|146=>248|51=>48|n=>n,fun|1=>1|n=>n⟩
theorem Tryz.Np:Go.Proofs.Lays.n144 Tryz.prog Tryz.xZ:={
 mixed:=by kernel_rfl
 f143:=Tryz.func357.trans (congrArg some (by kernel_rfl))
 f144:=Tryz.func337.trans (congrArg some (by kernel_rfl))
 f217:=Tryz.func286.trans (congrArg some (by kernel_rfl))
 f219:=Tryz.func308.trans (congrArg some (by kernel_rfl))
 f224:=Tryz.func332.trans (congrArg some (by kernel_rfl))
 f225:=Tryz.func331.trans (congrArg some (by kernel_rfl))
 f266:=Tryz.func312.trans (congrArg some (by kernel_rfl))
 f267:=Tryz.func333.trans (congrArg some (by kernel_rfl))
 f314:=Tryz.func355.trans (congrArg some (by kernel_rfl))
 t3:=Tryz.underlying3
 a3:=Tryz.isAgg3
 z3:=Tryz.sizeOf3
 v3:=Tryz.zeroValue3
 t4:=Tryz.underlying4
 a4:=Tryz.isAgg4
 z4:=Tryz.sizeOf4
 v4:=Tryz.zeroValue4
 t5:=Tryz.underlying5
 a5:=Tryz.isAgg5
 z5:=Tryz.sizeOf5
 v5:=Tryz.zeroValue5
 t9:=Tryz.underlying9
 a9:=Tryz.isAgg9
 z9:=Tryz.sizeOf9
 v9:=Tryz.zeroValue9
 t46:=Tryz.underlying139
 a46:=Tryz.isAgg139
 z46:=Tryz.sizeOf139
 v46:=Tryz.zeroValue139
 t51:=Tryz.underlying48
 a51:=Tryz.isAgg48
 z51:=Tryz.sizeOf48
 v51:=Tryz.zeroValue48
 t146:=Tryz.underlying248
 a146:=Tryz.isAgg248
 z146:=Tryz.sizeOf248
 v146:=Tryz.zeroValue248
 g1:=by kernel_rfl}
open Go.RowKit Go.Lib in
theorem Tryz.strings_Contains_one(s:ByteArray)(c:UInt8)(w:World):
 Calls Tryz.prog 337 #[.string s,.string ⟨#[c]⟩] w λe w'=>e=.returned (.bool (decide (0<=Lib.indexByte s.data.toList c)))/\w'=w:=Any.strings_Contains_one Tryz.Np s c w
def Tryz.Am:Go.Shelf.Ren:=⟨fun|99=>294|206=>322|n=>n,fun|9=>9|4=>4|3=>3|n=>n,fun|n=>n⟩
theorem Tryz.Ri:Go.Proofs.Lays.n99 Tryz.prog Tryz.Am:={
 mixed:=by kernel_rfl
 f99:=Tryz.func294.trans (congrArg some (by kernel_rfl))
 f206:=Tryz.func322.trans (congrArg some (by kernel_rfl))
 t3:=Tryz.underlying3
 a3:=Tryz.isAgg3
 z3:=Tryz.sizeOf3
 v3:=Tryz.zeroValue3
 t4:=Tryz.underlying4
 a4:=Tryz.isAgg4
 z4:=Tryz.sizeOf4
 v4:=Tryz.zeroValue4
 t9:=Tryz.underlying9
 a9:=Tryz.isAgg9
 z9:=Tryz.sizeOf9
 v9:=Tryz.zeroValue9}
open Go.RowKit Go.Lib in
theorem Tryz.strings_HasPrefix(s p:ByteArray)(w:World):
 Calls Tryz.prog 294 #[.string s,.string p] w λe w'=>e=.returned (.bool (Lib.hasPrefix s.data.toList p.data.toList))/\w'=w:=Any.strings_HasPrefix Tryz.Ri s p w
def Tryz.x_:Go.Shelf.Ren:=⟨fun|100=>346|207=>330|n=>n,fun|9=>9|4=>4|3=>3|n=>n,fun|n=>n⟩
theorem Tryz.Nq:Go.Proofs.Lays.n100 Tryz.prog Tryz.x_:={
 mixed:=by kernel_rfl
 f100:=Tryz.func346.trans (congrArg some (by kernel_rfl))
 f207:=Tryz.func330.trans (congrArg some (by kernel_rfl))
 t3:=Tryz.underlying3
 a3:=Tryz.isAgg3
 z3:=Tryz.sizeOf3
 v3:=Tryz.zeroValue3
 t4:=Tryz.underlying4
 a4:=Tryz.isAgg4
 z4:=Tryz.sizeOf4
 v4:=Tryz.zeroValue4
 t9:=Tryz.underlying9
 a9:=Tryz.isAgg9
 z9:=Tryz.sizeOf9
 v9:=Tryz.zeroValue9}
open Go.RowKit Go.Lib in
theorem Tryz.strings_HasSuffix(s p:ByteArray)(w:World)(hs:s.size<=9223372036854775807):
 Calls Tryz.prog 346 #[.string s,.string p] w λe w'=>e=.returned (.bool (Lib.hasSuffix s.data.toList p.data.toList))/\w'=w:=Any.strings_HasSuffix Tryz.Nq s p w hs
def Tryz.yc:Go.Shelf.Ren:=⟨fun|101=>363|208=>366|206=>322|n=>n,fun|9=>9|4=>4|3=>3|n=>n,fun|n=>n⟩
theorem Tryz.Nr:Go.Proofs.Lays.n101 Tryz.prog Tryz.yc:={
 mixed:=by kernel_rfl
 f101:=Tryz.func363.trans (congrArg some (by kernel_rfl))
 f206:=Tryz.func322.trans (congrArg some (by kernel_rfl))
 f208:=Tryz.func366.trans (congrArg some (by kernel_rfl))
 t3:=Tryz.underlying3
 a3:=Tryz.isAgg3
 z3:=Tryz.sizeOf3
 v3:=Tryz.zeroValue3
 t4:=Tryz.underlying4
 a4:=Tryz.isAgg4
 z4:=Tryz.sizeOf4
 v4:=Tryz.zeroValue4
 t9:=Tryz.underlying9
 a9:=Tryz.isAgg9
 z9:=Tryz.sizeOf9
 v9:=Tryz.zeroValue9}
open Go.RowKit Go.Lib in
theorem Tryz.strings_TrimPrefix(s p:ByteArray)(w:World):
 Calls Tryz.prog 363 #[.string s,.string p] w λe w'=>e=.returned (.string ⟨(Lib.trimPrefix s.data.toList p.data.toList).toArray⟩)/\w'=w:=Any.strings_TrimPrefix Tryz.Nr s p w
def Tryz.yg:Go.Shelf.Ren:=⟨fun|102=>280|209=>307|207=>330|n=>n,fun|9=>9|4=>4|3=>3|n=>n,fun|n=>n⟩
theorem Tryz.Ns:Go.Proofs.Lays.n102 Tryz.prog Tryz.yg:={
 mixed:=by kernel_rfl
 f102:=Tryz.func280.trans (congrArg some (by kernel_rfl))
 f207:=Tryz.func330.trans (congrArg some (by kernel_rfl))
 f209:=Tryz.func307.trans (congrArg some (by kernel_rfl))
 t3:=Tryz.underlying3
 a3:=Tryz.isAgg3
 z3:=Tryz.sizeOf3
 v3:=Tryz.zeroValue3
 t4:=Tryz.underlying4
 a4:=Tryz.isAgg4
 z4:=Tryz.sizeOf4
 v4:=Tryz.zeroValue4
 t9:=Tryz.underlying9
 a9:=Tryz.isAgg9
 z9:=Tryz.sizeOf9
 v9:=Tryz.zeroValue9}
open Go.RowKit Go.Lib in
theorem Tryz.strings_TrimSuffix(s p:ByteArray)(w:World)(hs:s.size<=9223372036854775807):
 Calls Tryz.prog 280 #[.string s,.string p] w λe w'=>e=.returned (.string ⟨(Lib.trimSuffix s.data.toList p.data.toList).toArray⟩)/\w'=w:=Any.strings_TrimSuffix Tryz.Ns s p w hs
def Tryz.yh:Go.Shelf.Ren:=⟨fun|109=>349|n=>n,fun|31=>31|9=>9|3=>3|0=>0|4=>4|n=>n,fun|n=>n⟩
theorem Tryz.Nt:Go.Proofs.Lays.n109 Tryz.prog Tryz.yh:={
 mixed:=by kernel_rfl
 f109:=Tryz.func349.trans (congrArg some (by kernel_rfl))
 t0:=Tryz.underlying0
 a0:=Tryz.isAgg0
 z0:=Tryz.sizeOf0
 v0:=Tryz.zeroValue0
 t3:=Tryz.underlying3
 a3:=Tryz.isAgg3
 z3:=Tryz.sizeOf3
 v3:=Tryz.zeroValue3
 t4:=Tryz.underlying4
 a4:=Tryz.isAgg4
 z4:=Tryz.sizeOf4
 v4:=Tryz.zeroValue4
 t9:=Tryz.underlying9
 a9:=Tryz.isAgg9
 z9:=Tryz.sizeOf9
 v9:=Tryz.zeroValue9
 t31:=Tryz.underlying31
 a31:=Tryz.isAgg31
 z31:=Tryz.sizeOf31
 v31:=Tryz.zeroValue31}
open Go.Lib in
theorem Tryz.slices_Index_string(b off n c:Nat)(zs:List ByteArray)(x:ByteArray)(w:World)(hz:n<=zs.length)(hbig:n<=9223372036854775807)(hc:∀j,j<zs.length->w.cell? ⟨b,off+j,none⟩=some (.string (zs.getD j ByteArray.empty))):
 Calls Tryz.prog 349 #[.slice (some ⟨b,off,none⟩) n c,.string x] w λe w'=>e=.returned (.int .i64 (Lib.idxOfS (zs.take n) x))/\w'=w:=Any.slices_Index_string Tryz.Nt b off n c zs x w hz hbig hc
end Go.Proofs.YtboehbfagnocpaaGreatDoor
namespace Go.Proofs.YtboehbfagnocpaaGreatDoor.W2.P
open Go.PlainAid
abbrev L:=List UInt8
def sl(s:ByteArray):L:=s.data.toList
def mk(l:L):ByteArray:=⟨l.toArray⟩
theorem yj(s:ByteArray):mk (sl s)=s:=by cases s;simp[mk,sl]
theorem uh(l:L):sl (mk l)=l:=by simp[mk,sl]
theorem bS(s:ByteArray):(sl s).length=s.size:=by simp[sl]
theorem dP(l:L):(mk l).size=l.length:=by simp[mk,ByteArray.size]
theorem extract_mk(s:ByteArray)(a b:Nat):s.extract a b=mk (((sl s).take b).drop a):=by
 rw[<-yj (s.extract a b)];congr 1;simp[sl,ByteArray.data_extract,List.extract_eq_take_drop,List.drop_take]
theorem Vh(s:ByteArray)(i:Nat):bt s i=(((sl s)[i]?).map (λb=>(b.toNat:Int))).getD 0:=by
 unfold bt sl;by_cases h:i<s.size
 ·rw[dif_pos h];have h':i<s.data.toList.length:=by simpa using h
  rw[List.getElem?_eq_getElem h'];simp;rfl
 ·rw[dif_neg h];have h':¬i<s.data.toList.length:=by simpa using h
  rw[List.getElem?_eq_none (by omega)];rfl
theorem ru{s:ByteArray}{i:Nat}{b:UInt8}(h:(sl s)[i]?=some b):bt s i=b.toNat:=by rw[Vh,h];rfl
theorem lF{s:ByteArray}{i:Nat}(h:i<s.size):∃b,(sl s)[i]?=some b/\bt s i=b.toNat:=by
 have h':i<(sl s).length:=by rw[bS];exact h
 exact⟨_,List.getElem?_eq_getElem h',ru (List.getElem?_eq_getElem h')⟩
theorem qo{b c:UInt8}(h:(b.toNat:Int)=c.toNat):b=c:=UInt8.toNat_inj.1 (by omega)
def upto(c:UInt8)(l:L):L:=l.takeWhile (·!=c)
def behind(c:UInt8)(l:L):L:=(l.dropWhile (·!=c)).drop 1
theorem ve{c:UInt8}{l:L}(h:c∉l):upto c l=l/\behind c l= []:=by
 unfold upto behind;induction l with
 |nil=>exact⟨rfl,rfl⟩
 |cons a l ih=>
  have h1:a≠c:=λe=>h (by simp[e])
  have h2:=ih (λe=>h (by simp[e]));simp[List.takeWhile_cons,List.dropWhile_cons,h1,h2.1];simpa using h2.2
theorem ry{c:UInt8}{a b:L}(h:c∉a):upto c (a ++ c :: b)=a/\behind c (a ++ c :: b)=b:=by
 unfold upto behind;induction a with
 |nil=>simp[List.takeWhile_cons,List.dropWhile_cons]
 |cons x a ih=>
  have h1:x≠c:=λe=>h (by simp[e])
  have h2:=ih (λe=>h (by simp[e]));simp[List.takeWhile_cons,List.dropWhile_cons,h1] at h2⊢;exact h2
theorem jS{c:UInt8}{l:L}(h:c∈l):l=upto c l ++ c :: behind c l/\c∉upto c l:=by
 unfold upto behind;induction l with
 |nil=>cases h
 |cons a l ih=>
  by_cases h1:a=c
  ·subst h1;simp[List.takeWhile_cons,List.dropWhile_cons]
  ·have h2:=ih (by rcases List.mem_cons.1 h with e|e;exact absurd e.symm h1;exact e);simp only[List.takeWhile_cons,List.dropWhile_cons,bne_iff_ne,ne_eq,h1,not_false_eq_true,if_true,List.cons_append,List.mem_cons,not_or];exact⟨by rw[<-h2.1],⟨λe=>h1 e.symm,h2.2⟩⟩
theorem GQ{c:UInt8}{l:L}(h:c∉l):Lib.indexByte l c= -1:=by
 rcases Int.lt_or_le (Lib.indexByte l c) 0 with h1|h1
 ·have:=Lib.indexByte_ge l c;omega
 ·obtain⟨o,ho⟩:=Int.eq_ofNat_of_zero_le h1;have:=(Lib.indexByte_some ho).1;exact absurd (List.mem_of_getElem? this) h
theorem DU{c:UInt8}{a b:L}(h:c∉a):Lib.indexByte (a ++ c :: b) c=(a.length:Int):=by
 rcases Int.lt_or_le (Lib.indexByte (a ++ c :: b) c) 0 with h1|h1
 ·have h2:=Lib.indexByte_ge (a ++ c :: b) c;have h3:Lib.indexByte (a ++ c :: b) c= -1:=by omega
  exact absurd (by simp) (Lib.indexByte_none h3 a.length)
 ·obtain⟨o,ho⟩:=Int.eq_ofNat_of_zero_le h1;obtain⟨h2,h3⟩:=Lib.indexByte_some ho;rw[ho];rcases Nat.lt_trichotomy o a.length with h4|h4|h4
  ·rw[List.getElem?_append_left h4] at h2;exact absurd (List.mem_of_getElem? h2) h
  ·rw[h4]
  ·exact absurd (by simp) (h3 a.length h4)
def go:L->L->List L
 | [],[]=>[]
 |x :: cur,[]=>[x :: cur]
 |cur,b :: l=>if b=32 then (if cur= [] then go [] l else cur :: go [] l) else go (cur ++ [b]) l
theorem rz(cur:L):go cur []=if cur= [] then [] else [cur]:=by cases cur<;>simp[go]
theorem iq(cur:L)(b:UInt8)(l:L):go cur (b :: l)=if b=32 then (if cur= [] then go [] l else cur :: go [] l) else go (cur ++ [b]) l:=by cases cur<;>simp[go]
theorem Nu{w:L}(h:32∉w):∀(cur l:L),go cur (w ++ l)=go (cur ++ w) l:=by
 induction w with
 |nil=>intro cur l;simp
 |cons a w ih=>
  intro cur l;have h1:a≠32:=λe=>h (by simp[e])
  rw[List.cons_append,iq,if_neg h1,ih (λe=>h (by simp[e]))];simp
theorem GR(cur l:L)(t:L):go cur (t ++ 32 :: l)=go cur t ++ go [] l:=by
 induction t generalizing cur with
 |nil=>rw[List.nil_append,iq,if_pos rfl,rz];split<;>simp
 |cons a t ih=>
  rw[List.cons_append,iq,iq];by_cases h1:a=32
  ·rw[if_pos h1,if_pos h1];by_cases h2:cur= []
   ·rw[if_pos h2,if_pos h2,ih]
   ·rw[if_neg h2,if_neg h2,ih];rfl
  ·rw[if_neg h1,if_neg h1,ih]
theorem GU{w:L}(h:32∉w)(h0:w≠[]):go [] w= [w]:=by
 have:=Nu h [] [];rw[List.append_nil,List.nil_append,rz,if_neg h0] at this;exact this
def words(s:ByteArray):List L:=go [] (sl s)
theorem Ch(l:L):go [] (Lib.trimLeftB l 32)=go [] l:=by
 unfold Lib.trimLeftB;induction l with
 |nil=>rfl
 |cons a l ih=>
  rw[List.dropWhile_cons];by_cases h:a=32
  ·rw[if_pos (by simpa using h),ih,iq,if_pos h,if_pos rfl]
  ·rw[if_neg (by simpa using h)]
theorem DV{l:L}{a:UInt8}{r:L}(h:Lib.trimLeftB l 32=a :: r):a≠32:=by
 intro e;unfold Lib.trimLeftB at h;have:=List.head?_dropWhile_not (p:=(· == (32:UInt8))) (l:=l);rw[h] at this;simp[e] at this
theorem rA(l:L):(Lib.trimLeftB l 32).length<=l.length:=(List.dropWhile_sublist _).length_le
theorem yl(c:UInt8)(l:L):(upto c l).length<=l.length:=(List.takeWhile_sublist _).length_le
theorem DW{c a:UInt8}{r:L}:(behind c (a :: r)).length<(a :: r).length:=by
 unfold behind;have:=(List.dropWhile_sublist (l:=a :: r) (λx=>x !=c)).length_le;simp at this⊢;omega
theorem go_step{l:L}{a:UInt8}{r:L}(h:Lib.trimLeftB l 32=a :: r):go [] l=upto 32 (a :: r) :: go [] (behind 32 (a :: r)):=by
 have ha:=DV h;rw[<-Ch l,h];have hne:upto 32 (a :: r)≠[]:=by unfold upto;simp[List.takeWhile_cons,ha]
 by_cases hm:32∈(a :: r)
 ·obtain⟨e,h2⟩:=jS hm;have h3:=GR [] (behind 32 (a :: r)) (upto 32 (a :: r));rw[<-e,GU h2 hne] at h3;simpa using h3
 ·obtain⟨e1,e2⟩:=ve hm;rw[e1,e2,GU hm (by simp)];rfl
theorem GV{l:L}(h:Lib.trimLeftB l 32= []):go [] l= []:=by rw[<-Ch l,h];rfl
theorem ui(s:ByteArray):∀cur l:L,(go cur l).length<=l.length+1:=by
 intro cur l;induction l generalizing cur with
 |nil=>rw[rz];split<;>simp
 |cons b l ih=>
  rw[iq];split
  ·split
   ·have:=ih [];simp;omega
   ·have:=ih [];simp;omega
  ·have:=ih (cur ++ [b]);simp;omega
end Go.Proofs.YtboehbfagnocpaaGreatDoor.W2.P
namespace Go.Proofs.YtboehbfagnocpaaGreatDoor.W2
open Go.RowKit Go.PlainAid
theorem ek{k:IntKind}{a b:Int}(h:a=b):Ending.returned (.int k a)=.returned (.int k b):=by rw[h]
theorem ay{a b:Bool}(h:a=b):Ending.returned (.bool a)=.returned (.bool b):=by rw[h]
theorem below_drewN{B:Nat}{a w:World}(h:Below B a w)(n:Nat):Below B a (w.drewN n):=⟨h.os,h.tape,h.output,h.size,h.block⟩
def aO(s:ByteArray):Bool:=decide (1<=s.size/\s.size<=250/\∀i,i<s.size->32<bt s i/\bt s i≠127)
theorem toList_eq(s:ByteArray):s.toList=s.data.toList:=ByteArray.toList_eq s
theorem dU{s:ByteArray}(h:s.size=0):s.toList.isEmpty=true/\s.toList= []:=by
 have e:s.data.toList= []:=List.eq_nil_of_length_eq_zero (by simpa using h);rw[toList_eq,e];exact⟨rfl,rfl⟩
theorem bu{s:ByteArray}(h:0<s.size):s.toList.isEmpty=false/\s.toList≠[]:=by
 have e:s.data.toList≠[]:=λh0=>by
  have:=congrArg List.length h0;simp at this;rw[this] at h;exact absurd h (by decide)
 rw[toList_eq];exact⟨by simpa using e,e⟩
theorem lq{s:ByteArray}(h:¬∀i,i<s.size->32<bt s i/\bt s i≠127):aO s=false:=by
 unfold aO;apply decide_eq_false;exact λ⟨_,_,h3⟩=>h h3
theorem qj{s:ByteArray}(h:s.size=0\/250<s.size):aO s=false:=by
 unfold aO;apply decide_eq_false;rintro⟨h1,h2,_⟩;omega
theorem uV{s:ByteArray}(h:1<=s.size)(h3:∀i,i<s.size->32<bt s i/\bt s i≠127):aO s=decide ((s.size:Int)<=250):=by
 unfold aO;by_cases h2:s.size<=250
 ·rw[decide_eq_true (by omega:(s.size:Int)<=250)];exact decide_eq_true ⟨h,h2,h3⟩
 ·rw[decide_eq_false (by omega:¬(s.size:Int)<=250)];exact decide_eq_false (λh'=>h2 h'.2.1)
theorem dI(s:ByteArray)(w:World)(hs:s.size<=maxLen):Calls Tryz.prog 164 #[.string s] w λe w'=>e=.returned (.bool (aO s))/\w=w':=by
 unfold maxLen at hs;have hb:=get_bt s;go_enter Tryz.func164,Tryz.ntmps164;go_wp2
 go_loop [7] (λi=> ∃k:Nat,k<=s.size/\i=.int .i64 k/\(∀j,j<k->32<bt s j/\bt s j≠127)) (λi=>s.size-(intOf i).toNat)
 case atStart=>exact⟨0,Nat.zero_le _,rfl,λj hj=>by omega⟩
 case round=>
  obtain⟨k,hk,rfl,hall⟩:=hrel;have eY:=Lib.hid hall;clear hall;by_cases hlt:k<s.size
  ·have hn:=bt_nonneg s k;have hl:=bt_le s k;by_cases h1:bt s k<=32
   ·go_wp2
    go_ret;exact⟨ay (lq (λh=>by have:=(h k hlt).1;omega)).symm,rfl⟩
   ·by_cases h2:bt s k=127
    ·have h2':(bt s k == 127)=true:=by simp[h2]
     have H2:=Lib.hid h2;clear h2;go_wp2
     go_ret;exact⟨ay (lq (λh=>(h k hlt).2 H2.out)).symm,rfl⟩
    ·have h2':(bt s k == 127)=false:=by simp[h2]
     have H2:=Lib.hid h2;clear h2;go_wp2
     go_round
     case rel=>
      refine⟨k+1,by omega,by go_num,λj hj=>?_⟩;rcases Nat.lt_succ_iff_lt_or_eq.1 hj with h|rfl
      ·exact eY.out j h
      ·exact⟨by omega,H2.out⟩
     case measure=>simp[intOf];omega
  ·by_cases h0:s.size=0
   ·obtain⟨e1,e2⟩:=dU h0;have UX:=Lib.hid (qj (s:=s) (by omega));have h0':decide (1<=(s.size:Int))=false:=by simp;omega
    clear h0;go_wp2
    go_ret;exact⟨ay UX.out.symm,rfl⟩
   ·obtain⟨e1,e2⟩:=bu (s:=s) (by omega);have h1':1<=s.size:=by omega
    have UY:=Lib.hid (uV (s:=s) (by omega) (λi hi=>eY.out i (by omega)));go_wp2
    go_ret;exact⟨ay UY.out.symm,rfl⟩
def cutV(c:UInt8)(s:ByteArray):Value:=.tuple #[.string (P.mk (P.upto c (P.sl s))),.string (P.mk (P.behind c (P.sl s))),.bool (decide (c∈P.sl s))]
theorem vg{c:UInt8}{s:ByteArray}(h:c∉P.sl s):cutV c s=.tuple #[.string s,.string ⟨#[]⟩,.bool false]:=by
 unfold cutV;rw[(P.ve h).1,(P.ve h).2,P.yj,decide_eq_false h];rfl
theorem ym{c:UInt8}{s:ByteArray}(h:c∈P.sl s):∃j:Nat,Lib.indexByte (P.sl s) c=(j:Int)/\j<s.size/\cutV c s=.tuple #[.string (s.extract 0 j),.string (s.extract (j+1) s.size),.bool true]/\(P.upto c (P.sl s)).length=j:=by
 obtain⟨e,h2⟩:=P.jS h;have hl:=P.bS s;have hl2:(P.sl s).length=(P.upto c (P.sl s)).length+((P.behind c (P.sl s)).length+1):=by
  have:=congrArg List.length e;simpa using this
 refine⟨(P.upto c (P.sl s)).length,?_,by omega,?_,rfl⟩
 ·have:=P.DU (a:=P.upto c (P.sl s)) (b:=P.behind c (P.sl s)) h2;rw[<-e] at this;exact this
 ·unfold cutV;rw[decide_eq_true h,P.extract_mk,P.extract_mk];generalize hu:P.upto c (P.sl s)=u at*;generalize hb:P.behind c (P.sl s)=b at*;rw[show s.size=(P.sl s).length from hl.symm,List.take_length,e];simp
theorem Vi(c:UInt8)(s:ByteArray)(w:World)(hs:s.size<=maxLen):Calls Tryz.prog 281 #[.string s,.string ⟨#[c]⟩] w λe w'=>e=.returned (cutV c s)/\∃n,w'=w.drewN n:=by
 unfold maxLen at hs;by_cases h:c∈P.sl s
 ·obtain⟨j,h1,h2,h3,_⟩:=ym h;have H3:=Lib.hid h3;have hjI:(j:Int)<(s.size:Int):=by omega
  have hj0:(j:Int)<=(s.size:Int):=by omega
  have hj1:(j:Int)+1<=(s.size:Int):=by omega
  have hj2:((j:Int)+1).toNat=j+1:=by omega
  have hj3:j+1<=s.size:=by omega
  have hj4:IntKind.i64.wrap ((j:Int)+1)=(j:Int)+1:=by rw[IntKind.wrap_i64];omega
  have hix:∀w',Calls Tryz.prog 308 #[.string s,.string ⟨#[c]⟩] w' λe w''=>e=.returned (.int .i64 j)/\w'=w'':=λw'=>(Tryz.stringslite_Index_one s c w').mono (by rintro e w'' ⟨rfl,rfl⟩;exact⟨by rw[<-h1];rfl,rfl⟩)
  have LM:=Lib.hid hix;clear h h1 h3 hix;go_enter Tryz.func281,Tryz.ntmps281;go_wp2_with (go_at_call 308;refine(LM.out _).mono ?_;rintro e w' ⟨rfl,rfl⟩)
  go_quiet (fail)
  go_wp2_with (fail)
  go_ret3
  exact⟨by rw[H3.out];rfl,_,rfl⟩
 ·have H3:=Lib.hid (vg h);have hix:∀w',Calls Tryz.prog 308 #[.string s,.string ⟨#[c]⟩] w' λe w''=>e=.returned (.int .i64 (-1))/\w'=w'':=λw'=>(Tryz.stringslite_Index_one s c w').mono (by rintro e w'' ⟨rfl,rfl⟩;exact⟨by rw[<-P.GQ h];rfl,rfl⟩)
  have LM:=Lib.hid hix;clear h hix;go_enter Tryz.func281,Tryz.ntmps281;go_wp2_with (go_at_call 308;refine(LM.out _).mono ?_;rintro e w' ⟨rfl,rfl⟩)
  go_ret3
  exact⟨by rw[H3.out];rfl,0,rfl⟩
theorem kF(c:UInt8)(s:ByteArray)(w:World)(hs:s.size<=maxLen):Calls Tryz.prog 247 #[.string s,.string ⟨#[c]⟩] w λe w'=>e=.returned (cutV c s)/\∃n,w'=w.drewN n:=by
 have hc:∀w',Calls Tryz.prog 281 #[.string s,.string ⟨#[c]⟩] w' λe w''=>e=.returned (.tuple #[.string (P.mk (P.upto c (P.sl s))),.string (P.mk (P.behind c (P.sl s))),.bool (decide (c∈P.sl s))])/\∃n,w''=w'.drewN n:=λw'=>Vi c s w' hs
 have Hc:=Lib.hid hc;clear hc;obtain⟨a,ha⟩:∃a,P.mk (P.upto c (P.sl s))=a:=⟨_,rfl⟩;obtain⟨b,hb⟩:∃b,P.mk (P.behind c (P.sl s))=b:=⟨_,rfl⟩;obtain⟨d,hd⟩:∃d,decide (c∈P.sl s)=d:=⟨_,rfl⟩;have H3:Hid (cutV c s=.tuple #[.string a,.string b,.bool d]):=Lib.hid (by unfold cutV;rw[ha,hb,hd]);rw[ha,hb,hd] at Hc;clear ha hb hd;go_enter Tryz.func247,Tryz.ntmps247;go_wp2_with (go_at_call 281;refine(Hc.out _).mono ?_;rintro e w' ⟨rfl,n,rfl⟩)
 go_ret3
 exact⟨by rw[H3.out];rfl,n,rfl⟩
def aX(s:ByteArray):ByteArray:=if 10∈P.sl s then P.mk (Lib.trimSuffix (P.upto 10 (P.sl s)) [13]) else ⟨#[]⟩
def b_(s:ByteArray):Int:=if 10∈P.sl s then ((P.upto 10 (P.sl s)).length:Int)+1 else 0
def dL(s:ByteArray)(w:World)(e:Ending)(w':World):Prop:=e=.returned (.tuple #[.string (aX s),.int .i64 (b_ s)])/\∃n,w'=w.drewN n
theorem gP(s:ByteArray)(w:World)(hs:s.size<=maxLen):Calls Tryz.prog 246 #[.string s] w (dL s w):=by
 have hc:∀w',Calls Tryz.prog 247 #[.string s,.string ⟨#[10]⟩] w' λe w''=>e=.returned (cutV 10 s)/\∃n,w''=w'.drewN n:=λw'=>kF 10 s w' hs
 unfold maxLen at hs;by_cases h:10∈P.sl s
 ·obtain⟨u,hu⟩:∃u,P.upto 10 (P.sl s)=u:=⟨_,rfl⟩;have hul:u.length<=s.size:=by rw[<-hu,<-P.bS s];exact P.yl 10 _
  have hlt:u.length<9223372036854775807:=by
   have:=(ym h);obtain⟨j,_,h2,_,h4⟩:=this;rw[<-hu,h4];omega
  obtain⟨b,hb⟩:∃b,P.mk (P.behind 10 (P.sl s))=b:=⟨_,rfl⟩;have e1:cutV 10 s=.tuple #[.string (P.mk u),.string b,.bool true]:=by unfold cutV;rw[hu,hb,decide_eq_true h]
  have Hc:Hid (∀w',Calls Tryz.prog 247 #[.string s,.string ⟨#[10]⟩] w' λe w''=>e=.returned (.tuple #[.string (P.mk u),.string b,.bool true])/\∃n,w''=w'.drewN n):=Lib.hid (λw'=>by rw[<-e1];exact hc w');have Hs:Hid (∀w',Calls Tryz.prog 280 #[.string (P.mk u),.string ⟨#[13]⟩] w' λe w''=>e=.returned (.string (aX s))/\w'=w''):=Lib.hid (λw'=>(Tryz.strings_TrimSuffix (P.mk u) ⟨#[13]⟩ w' (by rw[P.dP];omega)).mono (by
   rintro e w'' ⟨rfl,rfl⟩;refine⟨?_,rfl⟩;unfold aX;rw[if_pos h,hu];rfl))
  have Hn:Hid (b_ s=(u.length:Int)+1):=Lib.hid (by unfold b_;rw[if_pos h,hu]);have hsz:(P.mk u).size=u.length:=P.dP u;clear h hc hb hu e1;go_enter Tryz.func246,Tryz.ntmps246
  go_wp2_with (first
   |(go_at_call 247;refine(Hc.out _).mono ?_;rintro e w' ⟨rfl,n,rfl⟩)
   |(go_at_call 280;refine(Hs.out _).mono ?_;rintro e w' ⟨rfl,rfl⟩))
  go_ret2;exact⟨by rw[Hn.out];rfl,n,rfl⟩
 ·have e1:=vg h;have Hc:Hid (∀w',Calls Tryz.prog 247 #[.string s,.string ⟨#[10]⟩] w' λe w''=>e=.returned (.tuple #[.string s,.string ⟨#[]⟩,.bool false])/\∃n,w''=w'.drewN n):=Lib.hid (λw'=>by rw[<-e1];exact hc w');have Hl:Hid (aX s=⟨#[]⟩/\b_ s=0):=Lib.hid (by unfold aX b_;rw[if_neg h,if_neg h];exact⟨rfl,rfl⟩);clear h hc e1;go_enter Tryz.func246,Tryz.ntmps246;go_wp2_with (go_at_call 247;refine(Hc.out _).mono ?_;rintro e w' ⟨rfl,n,rfl⟩)
  go_ret2;exact⟨by rw[Hl.out.1,Hl.out.2];rfl,n,rfl⟩
open Go.RowKit Go.Shelf Go.PlainAid
attribute [local go_sem] Oper.semAt_some
theorem fQ(s:ByteArray)(w:World):Calls Tryz.prog 248 #[.string s,.string ⟨#[32]⟩] w λe w'=>e=.returned (.string (P.mk (Lib.trimLeftB (P.sl s) 32)))/\w=w':=by
 refine(Tryz.strings_TrimLeft_one s 32 (by decide) w).mono ?_;rintro e w' ⟨rfl,rfl⟩;exact⟨rfl,rfl⟩
theorem GX(n:Nat)(s:ByteArray)(w:World):CallsIn Fence.wide n Tryz.prog 313 #[.string s] w λe w'=>e=.returned (.func (.func 336) #[] #[.pointer (some ⟨w.heap.size,0,none⟩)])/\w'=w.alloc (.cells #[.string s] 9):=by
 refine callsIn_of_wp Tryz.func313 rfl trivial ?_ rfl;simp only[Tryz.ntmps313,List.size_toArray,List.length_cons,List.length_nil,Nat.reduceAdd,Nat.reduceSub,Array.replicate_succ,Array.replicate_zero,List.push_toArray,List.append_toArray,List.nil_append,List.cons_append];gi_wp2
 go_ret;exact⟨rfl,rfl⟩
def Ci:Option Value->Nat|some (.string s)=>s.size|_=>0
structure St(w0:World)(rec:Loop)(pre:List P.L)(rest:P.L)(W:World):Prop where
 Vj:W.heap[w0.heap.size+2]?=some (.deferred (some []))
 Nv:W.heap[w0.heap.size+3]?=some (.loop rec)
 Rj:Boxed W (w0.heap.size+1) 9 (.string (P.mk rest))
 out:∃v,Boxed W w0.heap.size 31 v/\W.ownsRow (w0.heap.size+4) 9 1 v pre.length (pre.map (λl=> .string (P.mk l)))
 bel:Below w0.heap.size w0 W
theorem St.size{w0 W:World}{rec:Loop}{pre:List P.L}{rest:P.L}(h:St w0 rec pre rest W):w0.heap.size+4<=W.heap.size:=(Array.getElem?_eq_some_iff.1 h.Nv).1
theorem St.vk{w0 W:World}{rec:Loop}{pre:List P.L}{rest:P.L}(h:St w0 rec pre rest W)(r2:P.L){t:ByteArray}(ht:P.mk r2=t):St w0 rec pre r2 (W.setCell ⟨w0.heap.size+1,0,none⟩ (.string t)):=by
 subst ht;obtain⟨v,hv,hr⟩:=h.out;refine⟨(Below.heap_setCell _ _ _ _ (by simp)).trans h.Vj,(Below.heap_setCell _ _ _ _ (by simp)).trans h.Nv,h.Rj.set _,⟨v,hv.other (by omega) _,?_⟩,h.bel.setCell (p:=⟨w0.heap.size+1,0,none⟩) (by simp) _⟩;refine hr.kept (row:=some (w0.heap.size+1)) (grownBy_setCell' W (w0.heap.size+1) _) ?_;exact Or.inr (λe=>by have:=(hr.lt _ e).1;omega)
theorem St.drewN{w0 W:World}{rec:Loop}{pre:List P.L}{rest:P.L}(h:St w0 rec pre rest W)(k:Nat):St w0 rec pre rest (W.drewN k):=by
 obtain⟨v,hv,hr⟩:=h.out;refine⟨h.Vj,h.Nv,h.Rj,⟨v,hv,?_⟩,below_drewN h.bel k⟩;exact hr.kept (row:=none) ⟨rfl,rfl,rfl,Nat.le_refl _,λ_ _ _=>rfl⟩ (by cases hv:v.ownBlock<;>simp)
theorem St.put{w0 W:World}{rec Nw:Loop}{pre:List P.L}{rest:P.L}(h:St w0 rec pre rest W):St w0 Nw pre rest (W.putObj (w0.heap.size+3) (.loop Nw)):=by
 obtain⟨v,hv,hr⟩:=h.out;have hs:=h.size;refine⟨(World.putObj_heap_other (by omega)).trans h.Vj,World.putObj_heap_same (by omega),?_,⟨v,?_,ownsRow_putObj hr _ h.Nv rfl⟩,?_⟩
 ·exact(World.putObj_heap_other (by omega)).trans h.Rj
 ·exact(World.putObj_heap_other (by omega)).trans hv
 ·exact h.bel.grown (grownBy_putObj' W _ _) (by omega) (λk e=>by cases e;omega)
theorem Ny(s:ByteArray)(w0:World)(rec:Loop)(n:Nat)(hn:1<=n)(hs:s.size<=4000000)
 (hY:∀pre x rest W,St w0 rec pre rest W->pre.length<=4000001->YieldAt Fence.wide (n-1) Tryz.prog (w0.heap.size+3) #[.string (P.mk x)] W λe W'=>e=.returned (.bool true)/\St w0 rec (pre ++ [x]) rest W')
 (W:World) (h0:St w0 rec [] (P.sl s) W):
 CallsIn Fence.wide n Tryz.prog 336 #[.func (.yield (w0.heap.size+3)) #[] #[],.pointer (some ⟨w0.heap.size+1,0,none⟩)] W λe W'=>(∃v,e=.returned v)/\∃rest,St w0 rec (P.words s) rest W':=by
 refine callsIn_of_wp Tryz.func336 rfl trivial ?_ rfl;simp only[Tryz.ntmps336,List.size_toArray,List.length_cons,List.length_nil,Nat.reduceAdd,Nat.reduceSub,Array.replicate_succ,Array.replicate_zero,List.push_toArray,List.append_toArray,List.nil_append,List.cons_append];gi_wp2
 gi_loopw [] (λwr=> ∃pre rest,St w0 rec pre rest wr/\pre ++ P.go [] rest=P.words s/\rest.length<=s.size) (λwr=>Ci (wr.cell? ⟨w0.heap.size+1,0,none⟩))
 case atStart=>exact⟨[],P.sl s,h0,rfl,by rw[P.bS];exact Nat.le_refl _⟩
 case round=>
  obtain⟨pre,rest,hst,hws,hrl⟩:=hrel;have Zd:=Lib.hid hws;clear hws;have hlc:=hst.Rj.cell;have hlf:=hst.Rj.frozen;rcases htr:Lib.trimLeftB rest 32 with _|⟨a,r⟩
  ·have Ze:Hid (∀w',Calls Tryz.prog 248 #[.string (P.mk rest),.string ⟨#[32]⟩] w' λe w''=>e=.returned (.string ⟨#[]⟩)/\w'=w''):=Lib.hid (λw'=>(fQ (P.mk rest) w').mono (by rintro e w'' ⟨rfl,rfl⟩;rw[P.uh,htr];exact⟨rfl,rfl⟩));have hgo:=P.GV htr;clear htr;gi_wp2_with (refine⟨trivial,?_⟩;gi_at_call 248;refine(callsIn_wide.2 (Ze.out _)).mono ?_;rintro e w' ⟨rfl,rfl⟩)
   refine bodyPost_ret (results_none rfl _ _ _) rfl ?_;have e1:=Zd.out;rw[hgo,List.append_nil] at e1;exact⟨⟨_,rfl⟩,[],by rw[<-e1];exact hst.vk [] rfl⟩
  ·have hw1:=(P.go_step htr);obtain⟨x,hx⟩:∃x,P.upto 32 (a :: r)=x:=⟨_,rfl⟩;obtain⟨re,hre⟩:∃re,P.behind 32 (a :: r)=re:=⟨_,rfl⟩;obtain⟨bo,hbo⟩:∃bo,decide (32∈a :: r)=bo:=⟨_,rfl⟩;obtain⟨t,ht⟩:∃t,P.mk (a :: r)=t:=⟨_,rfl⟩;have hts:t.size<=4000000:=by
    rw[<-ht,P.dP,<-htr];have:=P.rA rest;omega
   have hrl2:re.length<rest.length/\re.length<=s.size:=by
    have h1:=P.DW (c:=32) (a:=a) (r:=r);have h2:=P.rA rest;rw[hre] at h1;rw[htr] at h2;omega
   have hrc:(P.mk rest).size=rest.length:=P.dP rest;have Vk:pre.length<=4000001:=by
    have h1:=congrArg List.length Zd.out;have h2:=P.ui s [] (P.sl s);rw[P.bS] at h2;unfold P.words at h1;rw[List.length_append] at h1;omega
   have Zf:Hid ((pre ++ [x]) ++ P.go [] re=P.words s):=Lib.hid (by rw[<-Zd.out,hw1,hx,hre];simp);have Ze:Hid (∀w',Calls Tryz.prog 248 #[.string (P.mk rest),.string ⟨#[32]⟩] w' λe w''=>e=.returned (.string t)/\w'=w''):=Lib.hid (λw'=>(fQ (P.mk rest) w').mono (by rintro e w'' ⟨rfl,rfl⟩;rw[P.uh,htr,ht];exact⟨rfl,rfl⟩));have Hct:Hid (∀w',Calls Tryz.prog 247 #[.string t,.string ⟨#[32]⟩] w' λe w''=>e=.returned (.tuple #[.string (P.mk x),.string (P.mk re),.bool bo])/\∃n,w''=w'.drewN n):=Lib.hid (λw'=>(kF 32 t w' (by unfold maxLen;omega)).mono (by rintro e w'' ⟨rfl,h⟩;refine⟨?_,h⟩;unfold cutV;rw[<-ht,P.uh,hx,hre,hbo]));have hne:=(bu (s:=t) (by rw[<-ht,P.dP];simp)).1;have hne2:=(bu (s:=t) (by rw[<-ht,P.dP];simp)).2;have Zg:(t.toList == [])=false:=by rw[beq_eq_false_iff_ne];exact hne2
   clear htr
   gi_wp2_with (first
    |(refine⟨trivial,?_⟩;gi_at_call 248;refine(callsIn_wide.2 (Ze.out _)).mono ?_;rintro e w' ⟨rfl,rfl⟩)
    |(refine⟨trivial,?_⟩;gi_at_call 247;refine(callsIn_wide.2 (Hct.out _)).mono ?_;rintro e w' ⟨rfl,k,rfl⟩))
   have Nz:=((hst.vk (a :: r) ht).drewN k).vk re rfl;obtain⟨fn,tmps,assign,body,hy,hR⟩:=hY pre x re _ Nz Vk;rw[hy];gi_wp2
   refine hR.mono ?_;rintro e W3 ⟨rfl,GY⟩;gi_wp2
   go_roundw;case rel=>exact⟨pre ++ [x],re,GY,Zf.out,hrl2.2⟩
   case measure=>rw[GY.Rj.cell,hlc];simp only[Ci,P.dP];exact hrl2.1
theorem St.app{w0 W w1:World}{rec:Loop}{pre:List P.L}{rest x:P.L}(h:St w0 rec pre rest W){v v':Value}{tmp:Obj}(hv:Boxed W w0.heap.size 31 v)
 (hr:W.ownsRow (w0.heap.size+4) 9 1 v pre.length (pre.map (λl=> .string (P.mk l))))
 (hown':w1.ownsRow (w0.heap.size+4) 9 1 v' (pre.length+1) (pre.map (λl=> .string (P.mk l)) ++ [.string (P.mk x)])) (hg:(W.alloc tmp).grownBy w1 v.ownBlock):
 Boxed w1 w0.heap.size 31 v/\St w0 rec (pre ++ [x]) rest (w1.setCell ⟨w0.heap.size,0,none⟩ v'):=by
 have hs:=h.size;have keep:∀i,i<w0.heap.size+4->w1.heap[i]?=W.heap[i]?:=λi hi=>by
  rw[hg.block i (by simp;omega) (λe=>by have:=(hr.lt i e.symm).1;omega)];exact Below.heap_alloc W _ i (by omega)
 have hv1:Boxed w1 w0.heap.size 31 v:=(keep _ (by omega)).trans hv;have hb1:Below w0.heap.size w0 w1:=(h.bel.alloc (by omega) tmp).grown hg (by simp;omega) (λk e=>by have:=(hr.lt k e).1;omega);refine⟨hv1,⟨?_,?_,?_,⟨v',hv1.set v',?_⟩,hb1.setCell (p:=⟨w0.heap.size,0,none⟩) (Nat.le_refl _) _⟩⟩
 ·exact(Below.heap_setCell _ _ _ _ (by simp)).trans ((keep _ (by omega)).trans h.Vj)
 ·exact(Below.heap_setCell _ _ _ _ (by simp)).trans ((keep _ (by omega)).trans h.Nv)
 ·exact Boxed.other ((keep _ (by omega)).trans h.Rj) (by omega) _
 ·have h2:=hown'.kept (row:=some w0.heap.size) (grownBy_setCell' w1 w0.heap.size v') (Or.inr (λe=>by have:=(hown'.lt _ e).1;omega));simpa using h2
theorem rf{W:World}{b b':Nat}{e:TypeId}{size n:Nat}{v:Value}{xs:List Value}(h:W.ownsRow b e size v n xs)(hb:b'<=b):W.ownsRow b' e size v n xs:=by
 refine⟨h.1,?_⟩;rcases h.2 with h|⟨g,cap,cur,h1,h2,h3⟩
 ·exact .inl h
 ·exact .inr ⟨g,cap,cur,h1,Nat.le_trans hb h2,h3⟩
theorem P7:(Tryz.prog.info? 9).map (λi=>(i.zero,i.size,i.bytes))=some (some (.string ⟨#[]⟩),1,16):=by kernel_rfl
theorem GZ(n:Nat)(hn:3<=n)(s:ByteArray)(w:World)(hs:s.size<=4000000):
 CallsIn Fence.wide n Tryz.prog 288 #[.string s] w λe w'=> ∃v,e=.returned v/\w'.ownsRow w.heap.size 9 1 v (P.words s).length ((P.words s).map (λl=> .string (P.mk l)))/\Below w.heap.size w w':=by
 have h1:1<=n:=by omega
 refine callsIn_of_wp_marks Tryz.func288 rfl trivial ?_ rfl;simp only[Tryz.ntmps288,List.size_toArray,List.length_cons,List.length_nil,Nat.reduceAdd,Nat.reduceSub,Array.replicate_succ,Array.replicate_zero,List.push_toArray,List.append_toArray,List.nil_append,List.cons_append];gi_wp2_with (refine⟨trivial,?_⟩;gi_at_call 313;refine(GX (n-1) s _).mono ?_;rintro e w' ⟨rfl,rfl⟩)
 refine wpIn_rangeFunc ?_;intro fn hfn;generalize hB:Code.block 1 _=Zh;generalize hA:Code.region 3 _ _=Zi;obtain⟨W0,hW0⟩:∃W0,(w.alloc (.cells #[.slice none 0 0] 31)).alloc (.cells #[.string s] 9)=W0:=⟨_,rfl⟩;rw[hW0];have e0:W0.heap.size=w.heap.size+2:=by rw[<-hW0];simp
 obtain⟨tm,XK⟩:∃tm:Array Value,#[Value.string s,undef,Value.slice none 0 0,Value.pointer (some ⟨w.heap.size,0,none⟩),undef,Value.string s,Value.func (Fn.func 336) #[] #[Value.pointer (some ⟨w.heap.size+1,0,none⟩)],undef,undef,undef,undef,undef,undef]=tm:=⟨_,rfl⟩;obtain⟨rec,hrec⟩:∃rec:Loop,rec= {state:=.ready,pending:=none,fn,tmps:=tm,params:=#[7],assign:=Zi,body:=Zh,defers:=w.heap.size+2}:=⟨_,rfl⟩;obtain⟨W1,hW1⟩:∃W1,(W0.alloc (.deferred (some []))).alloc (.loop rec)=W1:=⟨_,rfl⟩;have hE:=run_enterLoop_outer (P:=Tryz.prog) (w:=W0) fn tm #[7] Zi Zh;rw[e0,<-hrec,hW1,show w.heap.size+2+1=w.heap.size+3 from rfl] at hE;refine⟨w.heap.size+3,[{target:=.collected (w.heap.size+2),args:=#[]}],W1,{target:=.fn (.func 336) #[.pointer (some ⟨w.heap.size+1,0,none⟩)],args:=#[.func (.yield (w.heap.size+3)) #[] #[]]},W1,336,#[.func (.yield (w.heap.size+3)) #[] #[],.pointer (some ⟨w.heap.size+1,0,none⟩)],W1,by rw[XK];exact hE,?_,?_,?_,λ_=>h1,?_⟩
 ·simp[resolve,go_sem]
 ·intro f' hf';trivial
 ·simp[invoke,go_sem,enters_of Tryz.func336 (by kernel_rfl) rfl]
 ·have hsz1:W1.heap.size=w.heap.size+4:=by rw[<-hW1];simp[e0]
  have hkeep:∀i,i<w.heap.size+2->W1.heap[i]?=W0.heap[i]?:=λi hi=>by
   rw[<-hW1,Below.heap_alloc _ _ i (by simp;omega),Below.heap_alloc _ _ i (by omega)]
  have hL1:W1.heap[w.heap.size+3]?=some (.loop rec):=by
   rw[<-hW1];have:=World.alloc_heap_new (W0.alloc (.deferred (some []))) (.loop rec);rw[World.size_alloc,e0] at this;exact this
  have hD1:W1.heap[w.heap.size+2]?=some (.deferred (some [])):=by
   rw[<-hW1,Below.heap_alloc _ _ _ (by simp;omega)];have:=World.alloc_heap_new W0 (.deferred (some []));rw[e0] at this;exact this
  have hb0:Boxed W0 w.heap.size 31 (.slice none 0 0):=by rw[<-hW0];exact(Boxed.new w 31 _).alloc _
  have hb1:Boxed W0 (w.heap.size+1) 9 (.string s):=by
   rw[<-hW0];have:=Boxed.new (w.alloc (.cells #[.slice none 0 0] 31)) 9 (.string s);rw[World.size_alloc] at this;exact this
  have hbel:Below w.heap.size w W1:=by
   rw[<-hW1,<-hW0];exact(((((Below.refl _ w).alloc (Nat.le_refl _) _).alloc (by simp) _).alloc (by simp;omega) _).alloc (by simp;omega) _)
  have h0:St w rec [] (P.sl s) W1:=⟨hD1,hL1,(hkeep _ (by omega)).trans (by rw[P.yj];exact hb1),⟨.slice none 0 0,(hkeep _ (by omega)).trans hb0,World.ownsRow_nil _ _ _ _⟩,hbel⟩;have r1:rec.state=.ready:=by rw[hrec]
  have r2:rec.pending=none:=by rw[hrec]
  have r3:rec.params= #[7]:=by rw[hrec]
  have r4:rec.assign=Zi:=by rw[hrec]
  have r5:rec.body=Zh:=by rw[hrec]
  have r6:rec.tmps=tm:=by rw[hrec]
  refine(Ny s w rec (n-1) (by omega) hs ?hY W1 h0).mono ?_;case hY=>
   intro pre x rest W hst hlen;have hy:=run_yield (P:=Tryz.prog) (args:=#[.string (P.mk x)]) hst.Nv (by rw[r3];rfl);refine⟨_,_,_,_,hy,roundIn_of_wpIn trivial ?_⟩;rw[r3,r4,r5,r6,<-hA,<-XK];have R1:=Lib.hid r1;have R2:=Lib.hid r2;have Rk:=hst.put (Nw:={rec with state:=.busy});have hbr:=run_beginRound (P:=Tryz.prog) hst.Nv r1;clear hrec XK r1 r2 r3 r4 r5 r6 hE hy hW0 hW1 hL1 hD1 hb0 hb1 hkeep h0 hbel hsz1 e0;gi_wp2
   refine⟨_,hbr,?_⟩;generalize W.putObj (w.heap.size+3) (.loop {rec with state:=.busy})=W2 at*;obtain⟨v,hv,hr⟩:=Rk.out;have hcv:=hv.cell;have hsz:=Rk.size;obtain⟨i0,hi,hz0,hz1,hz2⟩:=info_parts P7;clear hbr;rw[<-hB];gi_wp2_with (gi_at_builtin;go_must (refine wpListIn_append_own _ rfl _ _ 31 rfl (w.heap.size+4) 9 i0 (.string ⟨#[]⟩) 1 16 Tryz.underlying31 hi hz0 hz1 hz2 rfl (by decide) v pre.length _ rfl (hr.alloc _) ⟨W2.heap.size,0,none⟩ 1 1 [.string (P.mk x)] rfl rfl (cell_one_new _ _ _) (by simp[Value.oneCell']) (by unfold maxLen;omega) (by omega) (by simp;omega) ?_);intro v' w1 hown' hgrow _;obtain⟨g',cap',rfl⟩:=ownsRow_succ hown';obtain⟨hv1,GY⟩:=Rk.app hv hr hown' hgrow;have hc1:=hv1.cell;have hf1:=hv1.frozen)
   refine⟨_,_,run_endRound none GY.Nv,rfl,?_⟩;have e1:=R1.out;have e2:=R2.out;obtain⟨st,pe,fn',tm',ps',as',bo',de'⟩:=rec;simp only at e1 e2;subst e1 e2;exact GY.put
  ·rintro e W2 ⟨⟨v,rfl⟩,rest,hst⟩;have hend:=run_endLoop (P:=Tryz.prog) hst.Nv (by rw[r1];simp);rw[r2] at hend;generalize Rl:W2.putObj (w.heap.size+3) _=W4 at hend;obtain⟨Vm,Rm⟩:∃Vm,St w Vm (P.words s) rest W4:=⟨_,by rw[<-Rl];exact hst.put⟩;refine⟨none,W4,hend,?_⟩;obtain⟨v4,hv4,hr4⟩:=Rm.out;have hc4:=hv4.cell;have hD4:=Rm.Vj;have hb4:=Rm.bel;clear hend Rl hrec r1 r2 r3 r4 r5 r6 XK hE hst hW0 hW1;show Exit.inBlock 0 _ Exit.normal _ W4;gi_wp2
   refine⟨by simp,.inl ⟨_,_,rfl,run_takeDeferred hD4,?_⟩⟩;refine⟨_,results_tmp rfl _ _ _,⟨_,rfl,rf (ownsRow_putObj hr4 _ hD4 rfl) (by omega),?_⟩⟩;exact hb4.grown (grownBy_putObj' W4 _ _) hb4.size (λk e=>by cases e;omega)
def kG(s:ByteArray)(w:World)(e:Ending)(w':World):Prop:=∃v,e=.returned v/\w'.ownsRow w.heap.size 9 1 v (P.words s).length ((P.words s).map (λl=> .string (P.mk l)))/\Below w.heap.size w w'
theorem kH(s:ByteArray)(w:World)(hs:s.size<=4000000):Calls Tryz.prog 288 #[.string s] w (kG s w):=callsIn_wide.1 (GZ 3 (by omega) s w hs)
end Go.Proofs.YtboehbfagnocpaaGreatDoor.W2
namespace Go.Proofs.YtboehbfagnocpaaGreatDoor.W2
open Go.RowKit Go.PlainAid
namespace P
theorem G5(a b:ByteArray):sl (a ++ b)=sl a ++ sl b:=by simp[sl,ByteArray.data_append]
end P
theorem own_below{w w':World}{base n:Nat}{e:TypeId}{size:Nat}{v:Value}{xs:List Value}(h:w.ownsRow base e size v n xs)(hb:Below w.heap.size w w'):w'.ownsRow base e size v n xs:=
 h.kept (row:=none) ⟨hb.os,hb.tape,hb.output,hb.size,λi hi _=>hb.block i hi⟩ (by cases hv:v.ownBlock<;>simp)
def RS(w:World)(v:Value)(l:List ByteArray):Prop:=
 ∃a cap,v=.slice a l.length cap/\(l≠[]->∃b o,a=some ⟨b,o,none⟩/\∀i,i<l.length->w.cell? ⟨b,o+i,none⟩=some (.string (l[i]?.getD ⟨#[]⟩)))
theorem G7{w:World}{base n:Nat}{v:Value}{l:List ByteArray}(h:w.ownsRow base 9 1 v n (l.map .string)):RS w v l:=by
 have hn:l.length=n:=by simpa using h.1
 subst hn;rcases h.2 with ⟨rfl,h0⟩|⟨g,cap,cur,rfl,_⟩
 ·exact⟨none,0,by rw[h0],λhne=>absurd (List.eq_nil_of_length_eq_zero h0) hne⟩
 ·refine⟨some ⟨g,0,none⟩,cap,rfl,λ_=>⟨g,0,rfl,λi hi=>?_⟩⟩;have:=h.cellAt i (by omega);rw[Nat.zero_add,this];simp[hi]
theorem RS.below{w w':World}{v:Value}{l:List ByteArray}(h:RS w v l)(hb:Below w.heap.size w w'):RS w' v l:=by
 obtain⟨a,cap,rfl,hc⟩:=h;refine⟨a,cap,rfl,λhne=>?_⟩;obtain⟨b,o,rfl,hcc⟩:=hc hne;refine⟨b,o,rfl,λi hi=>?_⟩;have h1:=hcc i hi;rw[hb.cell (World.block_lt_of_cell? _ _ h1)];exact h1
def mr:List ByteArray->Nat
 | []=>0
 |s :: l=>s.size+1+mr l
theorem G8(l:List ByteArray):l.length<=mr l:=by
 induction l with
 |nil=>simp
 |cons x l ih=>simp only[mr,List.length_cons];omega
theorem RS.at{w:World}{a:Option Addr}{n cap:Nat}{l:List ByteArray}(h:RS w (.slice a n cap) l){i:Nat}(hi:i<n):∃b o,a=some ⟨b,o,none⟩/\b<w.heap.size/\w.cell? ⟨b,o+i,none⟩=some (.string (l[i]?.getD ⟨#[]⟩)):=by
 obtain⟨a',cap',e,hc⟩:=h;simp only[Value.slice.injEq] at e;obtain⟨rfl,hln,rfl⟩:=e;obtain⟨b,o,rfl,hcc⟩:=hc (by rintro rfl;simp at hln;omega);have:=hcc i (by omega);exact⟨b,o,rfl,World.block_lt_of_cell? _ _ this,this⟩
namespace P
theorem mD(a b:List L):Lib.joinTail [32] (a ++ b)=Lib.joinTail [32] a ++ Lib.joinTail [32] b:=by simp[Lib.joinTail]
theorem mE(x:L):Lib.joinTail [32] [x]=32 :: x:=by simp[Lib.joinTail]
theorem DX(xs:List L)(x:L):Lib.join (xs ++ [x]) [32]=if xs= [] then x else Lib.join xs [32] ++ 32 :: x:=by
 cases xs with
 |nil=>rw[if_pos rfl,List.nil_append,Lib.join_one]
 |cons y ys=>rw[if_neg (by simp),List.cons_append,Lib.join_cons,Lib.join_cons,mD,mE,List.append_assoc]
theorem vo(l:List ByteArray):(Lib.joinTail [32] (l.map sl)).length=mr l:=by
 induction l with
 |nil=>rfl
 |cons s l ih=>
  rw[List.map_cons,show sl s :: l.map sl= [sl s] ++ l.map sl from rfl,mD,mE,List.length_append,ih];simp only[List.length_cons,bS,mr]
theorem yn(l:List ByteArray):(Lib.join (l.map sl) [32]).length<=mr l:=by
 cases l with
 |nil=>simp[Lib.join_nil,mr]
 |cons s l=>
  rw[List.map_cons,Lib.join_cons,List.length_append,vo,bS];simp only[mr];omega
end P
def eT(l:List ByteArray):ByteArray:=P.mk (Lib.join (l.map P.sl) [32])
theorem iV(l:List ByteArray)(x:ByteArray):eT (l ++ [x])=if l= [] then x else eT l ++ ⟨#[32]⟩ ++ x:=by
 unfold eT;rw[List.map_append,List.map_cons,List.map_nil,P.DX];by_cases h:l= []
 ·rw[if_pos h,if_pos (by rw[h];rfl),P.yj]
 ·rw[if_neg h,if_neg (by simpa using h)];rw[<-P.yj (P.mk (Lib.join (l.map P.sl) [32]) ++ ⟨#[32]⟩ ++ x)];congr 1;rw[P.G5,P.G5,P.uh];simp[P.sl]
theorem rC(l:List ByteArray):(eT l).size<=mr l:=by unfold eT;rw[P.dP];exact P.yn l
theorem Rn{w:World}{a:Option Addr}{n cap:Nat}{l:List ByteArray}(h:RS w (.slice a n cap) l)(hcap:n<=cap)(hs:mr l<=100000000):
 Calls Tryz.prog 321 #[.slice a n cap,.string ⟨#[32]⟩] w λe w'=>e=.returned (.string (eT l))/\Below w.heap.size w w':=by
 obtain⟨a',cap',e,hc⟩:=h;simp only[Value.slice.injEq] at e;obtain⟨rfl,rfl,rfl⟩:=e;by_cases h0:l= []
 ·subst h0;refine(Tryz.strings_Join_none a cap ⟨#[32]⟩ w).mono ?_;rintro e w' ⟨rfl,rfl⟩;exact⟨rfl,Below.refl _ _⟩
 ·obtain⟨b,o,rfl,hcc⟩:=hc h0;have hlt:b<w.heap.size:=World.block_lt_of_cell? _ _ (hcc 0 (by cases l;exact absurd rfl h0;simp));have hl:=G8 l;refine(Tryz.strings_Join b o cap l ⟨#[32]⟩ w (λj x hx=>?_) hlt (by omega) hcap ?_).mono ?_
  ·have hj:=(List.getElem?_eq_some_iff.1 hx).1;have:=hcc j hj;rw[this,hx];rfl
  ·have:=P.yn l;exact Nat.le_trans this (by omega)
  ·rintro e w' ⟨rfl,hb⟩;exact⟨rfl,hb⟩
theorem yo{w:World}{a:Option Addr}{n cap:Nat}{l:List ByteArray}(h:RS w (.slice a n cap) l)(hcap:n<=cap)(hs:mr l<=100000000):
 Calls Tryz.prog 293 #[.slice a n cap] w λe w'=>e=.returned (.string (eT l))/\Below w.heap.size w w':=by
 have hc:=Lib.hid (Rn h hcap hs);clear h;go_enter Tryz.func293,Tryz.ntmps293;go_wp2_with (fail)
 refine hc.out.mono ?_;rintro e w' ⟨rfl,hb⟩;go_wp2_with (fail)
 go_ret;exact⟨rfl,hb⟩
theorem RS.len{w:World}{a:Option Addr}{n cap:Nat}{l:List ByteArray}(h:RS w (.slice a n cap) l):l.length=n:=by
 obtain⟨a',cap',e,_⟩:=h;simp only[Value.slice.injEq] at e;exact e.2.1.symm
end Go.Proofs.YtboehbfagnocpaaGreatDoor.W2
namespace Go.Proofs.YtboehbfagnocpaaGreatDoor.B3.P
open Go.PlainAid
def letter(n:Int):Int:=if n<26 then 65+n else if n<52 then 71+n else if n<62 then n-4 else if n=62 then 43 else 47
def val(c:Int):Int:=if 65<=c/\c<=90 then c-65 else if 97<=c/\c<=122 then c-71 else if 48<=c/\c<=57 then c+4 else if c=43 then 62 else if c=47 then 63 else-1
theorem oL{n:Int}(h0:0<=n)(h1:n<64):43<=letter n/\letter n<=122/\letter n≠61:=by
 unfold letter;(repeat' split)<;>omega
theorem Ao{n:Int}(h0:0<=n)(h1:n<64):val (letter n)=n:=by
 unfold letter val;(repeat' split)<;>omega
theorem Ap{c:Int}(h:0<=val c):letter (val c)=c:=by
 unfold val at h;unfold letter val;(repeat' split)<;>(repeat' split at h)<;>omega
theorem G9(c:Int): -1<=val c/\val c<64:=by
 unfold val;(repeat' split)<;>omega
def sx(f:Nat->Int)(j:Nat):Int:=
 if j % 4=0 then f (j / 4*3) / 4 else if j % 4=1 then f (j / 4*3) % 4*16+f (j / 4*3+1) / 16 else
 if j % 4=2 then f (j / 4*3+1) % 16*4+f (j / 4*3+2) / 64 else f (j / 4*3+2) % 64
theorem Zj(f:Nat->Int)(q:Nat):sx f (4*q)=f (3*q) / 4:=by
 unfold sx;rw[if_pos (by omega),show 4*q / 4*3=3*q by omega]
theorem Vn(f:Nat->Int)(q:Nat):sx f (4*q+1)=f (3*q) % 4*16+f (3*q+1) / 16:=by
 unfold sx;rw[if_neg (by omega),if_pos (by omega),show (4*q+1) / 4*3=3*q by omega]
theorem Vo(f:Nat->Int)(q:Nat):sx f (4*q+2)=f (3*q+1) % 16*4+f (3*q+2) / 64:=by
 unfold sx;rw[if_neg (by omega),if_neg (by omega),if_pos (by omega),show (4*q+2) / 4*3=3*q by omega]
theorem Zk(f:Nat->Int)(q:Nat):sx f (4*q+3)=f (3*q+2) % 64:=by
 unfold sx;rw[if_neg (by omega),if_neg (by omega),if_neg (by omega),show (4*q+3) / 4*3=3*q by omega]
def By(f:Nat->Int):Prop:=∀i,0<=f i/\f i<=255
theorem jT{f:Nat->Int}(h:By f)(j:Nat):0<=sx f j/\sx f j<64:=by
 have h0:=h (j / 4*3);have h1:=h (j / 4*3+1);have h2:=h (j / 4*3+2);unfold sx;(repeat' split)<;>omega
theorem rD(s:ByteArray):By (bt s):=λi=>⟨bt_nonneg s i,bt_le s i⟩
def lets(f:Nat->Int)(j:Nat):List Int:=(List.range j).map (λi=>letter (sx f i))
theorem mF(f:Nat->Int)(j:Nat):(lets f j).length=j:=by simp[lets]
def nl(n:Nat):Nat:=(8*n+5) / 6
def np(n:Nat):Nat:=4*((n+2) / 3)
def enc(f:Nat->Int)(n:Nat):List Int:=lets f (nl n) ++ List.replicate (np n-nl n) 61
def encS(s:ByteArray):List Int:=enc (bt s) s.size
def dx(d:Nat->Int)(j:Nat):Int:=
 if j % 3=0 then d (j / 3*4)*4+d (j / 3*4+1) / 16 else if j % 3=1 then d (j / 3*4+1) % 16*16+d (j / 3*4+2) / 4 else d (j / 3*4+2) % 4*64+d (j / 3*4+3)
theorem P8(f:Nat->Int)(q:Nat):dx f (3*q)=f (4*q)*4+f (4*q+1) / 16:=by
 unfold dx;rw[if_pos (by omega),show 3*q / 3*4=4*q by omega]
theorem P9(f:Nat->Int)(q:Nat):dx f (3*q+1)=f (4*q+1) % 16*16+f (4*q+2) / 4:=by
 unfold dx;rw[if_neg (by omega),if_pos (by omega),show (3*q+1) / 3*4=4*q by omega]
theorem P_(f:Nat->Int)(q:Nat):dx f (3*q+2)=f (4*q+2) % 4*64+f (4*q+3):=by
 unfold dx;rw[if_neg (by omega),if_neg (by omega),show (3*q+2) / 3*4=4*q by omega]
def fC(d:Nat->Int)(j:Nat):List Int:=(List.range j).map (dx d)
theorem gQ(f:Nat->Int)(j:Nat):(fC f j).length=j:=by simp[fC]
theorem dQ(f:Nat->Int)(j:Nat):fC f (j+1)=fC f j ++ [dx f j]:=by simp[fC,List.range_succ]
theorem rE(x y:Int)(k:Nat)(hx:0<=x)(hx1:x<4294967296)(hm:x % (2:Int) ^ k=0)(hy:0<=y)(hy1:y<(2:Int) ^ k)(hk:k<=32):bits .or .u32 x y=x+y:=by
 obtain⟨a,rfl⟩:=Int.eq_ofNat_of_zero_le hx;obtain⟨b,rfl⟩:=Int.eq_ofNat_of_zero_le hy;have hb:b<2 ^ k:=by exact_mod_cast hy1
 have h32:(2:Nat) ^ k<=2 ^ 32:=Nat.pow_le_pow_right (by decide) hk;have ha:a<4294967296:=by omega
 rw[u32_or_nat a b ha (by omega)];have hd:(2:Int) ^ k∣(a:Int):=Int.dvd_of_emod_eq_zero hm;have hd':2 ^ k∣a:=by exact_mod_cast hd
 obtain⟨c,rfl⟩:=hd';rw[<-Nat.two_pow_add_eq_or_of_lt hb];push_cast;rfl
theorem mG(x:Int)(h0:0<=x)(h1:x<4294967296):bits .and .u32 x 63=x % 64:=by
 obtain⟨a,rfl⟩:=Int.eq_ofNat_of_zero_le h0;have ha:a<4294967296:=by omega
 have:=u32_and_nat a 63 ha (by decide);rw[show ((63:Nat):Int)=63 from rfl] at this;rw[this,show (63:Nat)=2 ^ 6-1 from rfl,Nat.and_two_pow_sub_one_eq_mod];push_cast;rfl
theorem or6(x c:Int)(h0:0<=x)(h1:x<4294967296)(c0:0<=c)(c1:c<64):bits .or .u32 (x*64 % 4294967296) c=x*64 % 4294967296+c:=
 rE _ _ 6 (by omega) (by omega) (by omega) c0 (by omega) (by omega)
theorem Aq(l:List UInt8)(c:UInt8):∃k,k<=l.length/\Lib.trimRightB l c=l.take k/\(∀(j:Nat) b,k<=j->l[j]?=some b->b=c)/\(∀b,0<k->l[k-1]?=some b->b≠c):=by
 unfold Lib.trimRightB;generalize hr:l.reverse=r;have hl:l=r.reverse:=by rw[<-hr,List.reverse_reverse]
 subst hl;clear hr;induction r with
 |nil=>exact⟨0,by simp,by simp,λj b _ h=>by simp at h,λb h=>absurd h (by omega)⟩
 |cons a r ih=>
  by_cases h:a=c
  ·subst h;obtain⟨k,hk,he,h1,h2⟩:=ih;simp only[List.length_reverse] at hk;refine⟨k,by simp;omega,?_,?_,?_⟩
   ·rw[List.dropWhile_cons,if_pos (by simp),he,List.reverse_cons,List.take_append_of_le_length (by simpa using hk)]
   ·intro j b hj hb;rw[List.reverse_cons] at hb;by_cases hlt:j<r.reverse.length
    ·rw[List.getElem?_append_left hlt] at hb;exact h1 j b hj hb
    ·rw[List.getElem?_append_right (by omega)] at hb;have:j-r.reverse.length=0:=by
      have:=(List.getElem?_eq_some_iff.1 hb).1;simp at this;simpa using this
     rw[this] at hb;simpa using hb.symm
   ·intro b h0 hb;rw[List.reverse_cons,List.getElem?_append_left (by simp;omega)] at hb;exact h2 b h0 hb
  ·refine⟨r.length+1,by simp,?_,?_,?_⟩
   ·rw[List.dropWhile_cons,if_neg (by simpa using h)];rw[List.take_of_length_le (by simp)]
   ·intro j b hj hb;have:=(List.getElem?_eq_some_iff.1 hb).1;simp at this;omega
   ·intro b _ hb;rw[List.reverse_cons,Nat.add_sub_cancel,List.getElem?_append_right (by simp)] at hb;simp at hb;subst hb;exact h
def mH(s:ByteArray):ByteArray:=⟨(Lib.trimRightB s.data.toList 61).toArray⟩
def bl(s:ByteArray):Nat:=(mH s).size
theorem mI(s:ByteArray)(i:Nat):bt s i=((s.data.toList[i]?).map (λb=>(b.toNat:Int))).getD 0:=by
 unfold bt;by_cases h:i<s.size
 ·rw[dif_pos h];have h':i<s.data.toList.length:=by simpa using h
  rw[List.getElem?_eq_getElem h'];simp;rfl
 ·rw[dif_neg h];have h':¬i<s.data.toList.length:=by simpa using h
  rw[List.getElem?_eq_none (by omega)];rfl
theorem gT(s:ByteArray):bl s<=s.size/\(∀i,i<bl s->bt (mH s) i=bt s i)/\(∀i,bl s<=i->i<s.size->bt s i=61)/\(0<bl s->bt s (bl s-1)≠61):=by
 obtain⟨k,hk,he,h1,h2⟩:=Aq s.data.toList 61;have hkl:k<=s.size:=by simpa using hk
 have hbl:bl s=k:=by
  have e1:bl s=(Lib.trimRightB s.data.toList 61).length:=rfl;rw[e1,he,List.length_take];omega
 rw[hbl];refine⟨hkl,?_,?_,?_⟩
 ·intro i hi;rw[mI,mI];unfold mH;rw[he];simp only[List.getElem?_take,if_pos hi]
 ·intro i hi hlt;rw[mI];have h':i<s.data.toList.length:=by simpa using hlt
  have:=h1 i _ hi (List.getElem?_eq_getElem h');rw[List.getElem?_eq_getElem h',this];rfl
 ·intro h0 heq;rw[mI] at heq;have h':k-1<s.data.toList.length:=by omega
  have h3:=h2 _ h0 (List.getElem?_eq_getElem h');rw[List.getElem?_eq_getElem h',Option.map_some,Option.getD_some] at heq;apply h3;apply UInt8.toNat_inj.1;have:(s.data.toList[k-1]).toNat=61:=by omega
  rw[this];rfl
def dv(s:ByteArray)(i:Nat):Int:=val (bt s i)
def okD(s:ByteArray):Bool:=
 decide (s.size % 4=0) && decide (s.size-bl s<=2) && (List.range (bl s)).all (λi=>decide (0<=dv s i)) &&
  decide (bl s % 4=2->dv s (bl s-1) % 16=0) && decide (bl s % 4=3->dv s (bl s-1) % 4=0)
def iW(s:ByteArray):ByteArray:=if okD s=true then strOfNums (fC (dv s) (6*bl s / 8)) else ⟨#[]⟩
theorem iX(s:ByteArray):okD s=true↔s.size % 4=0/\s.size-bl s<=2/\(∀i,i<bl s->0<=dv s i)/\(bl s % 4=2->dv s (bl s-1) % 16=0)/\(bl s % 4=3->dv s (bl s-1) % 4=0):=by
 unfold okD;simp only[Bool.and_eq_true,decide_eq_true_eq,List.all_eq_true,List.mem_range];exact⟨λ⟨⟨⟨⟨a,b⟩,c⟩,d⟩,e⟩=>⟨a,b,c,d,e⟩,λ⟨a,b,c,d,e⟩=>⟨⟨⟨⟨a,b⟩,c⟩,d⟩,e⟩⟩
theorem qp{s:ByteArray}(h:okD s=true):iW s=strOfNums (fC (dv s) (6*bl s / 8)):=by unfold iW;rw[if_pos h]
theorem Ro{s:ByteArray}(h:okD s=false):iW s=⟨#[]⟩:=by unfold iW;rw[if_neg (by simp[h])]
theorem nJ{s:ByteArray}(h:¬(s.size % 4=0/\s.size-bl s<=2/\(∀i,i<bl s->0<=dv s i)/\(bl s % 4=2->dv s (bl s-1) % 16=0)/\(bl s % 4=3->dv s (bl s-1) % 4=0))):okD s=false:=by
 rcases h':okD s with _|_
 ·rfl
 ·exact absurd ((iX s).1 h') h
theorem dX(s:ByteArray)(i:Nat): -1<=dv s i/\dv s i<64:=G9 _
theorem yt{d:Nat->Int}{n:Nat}(h:∀i,i<n->0<=d i/\d i<64){j:Nat}(hj:8*(j+1)<=6*n):0<=dx d j/\dx d j<=255:=by
 obtain⟨q,hq⟩:∃q,j=3*q\/j=3*q+1\/j=3*q+2:=⟨j / 3,by omega⟩;rcases hq with rfl|rfl|rfl
 ·have h1:=h (4*q) (by omega);have h2:=h (4*q+1) (by omega);rw[P8];omega
 ·have h1:=h (4*q+1) (by omega);have h2:=h (4*q+2) (by omega);rw[P9];omega
 ·have h1:=h (4*q+2) (by omega);have h2:=h (4*q+3) (by omega);rw[P_];omega
theorem rF(x:Int)(k:Nat)(h0:0<=x)(h1:x<4294967296)(hk:k<32):bits .and .u32 x ((2 ^ k-1:Nat):Int)=x % ((2 ^ k:Nat):Int):=by
 obtain⟨a,rfl⟩:=Int.eq_ofNat_of_zero_le h0;have ha:a<4294967296:=by omega
 have h32:(2:Nat) ^ k<=2 ^ 31:=Nat.pow_le_pow_right (by decide) (by omega);rw[u32_and_nat a (2 ^ k-1) ha (by omega),Nat.and_two_pow_sub_one_eq_mod];exact Int.natCast_emod a (2 ^ k)
theorem Vp(x:Int)(h0:0<=x)(h1:x<4294967296):bits .and .u32 x 15=x % 16:=rF x 4 h0 h1 (by decide)
theorem Zl(x:Int)(h0:0<=x)(h1:x<4294967296):bits .and .u32 x 3=x % 4:=rF x 2 h0 h1 (by decide)
theorem Zm(x:Int)(h0:0<=x)(h1:x<4294967296):bits .and .u32 x 0=0:=by have:=rF x 0 h0 h1 (by decide);simpa using this
def Bytes(l:List Int):Prop:=∀x∈l,0<=x/\x<=255
theorem iH(l:List Int):(strOfNums l).size=l.length:=by simp[strOfNums,ByteArray.size]
theorem vv{l:List Int}(h:Bytes l)(i:Nat):bt (strOfNums l) i=l[i]?.getD 0:=by
 rw[mI];unfold strOfNums;simp only[List.getElem?_map];rcases hx:l[i]? with _|x
 ·rfl
 ·have hb:=h x (List.mem_of_getElem? hx);simp only[Option.map_some,Option.getD_some];have:(UInt8.ofNat x.toNat).toNat=x.toNat:=by simp;omega
  omega
theorem Cj{s t:ByteArray}(h:s.size=t.size)(hb:∀i,i<s.size->bt s i=bt t i):s=t:=by
 have h1:s.data=t.data:=by
  apply Array.ext
  ·exact h
  ·intro i h1 h2;have:=hb i h1;unfold bt at this;rw[dif_pos (show i<s.size from h1),dif_pos (show i<t.size from h2)] at this;exact UInt8.toNat_inj.1 (by exact_mod_cast this)
 cases s;cases t;simpa using h1
theorem G_(n:Nat):nl n<=np n:=by unfold nl np;omega
theorem mJ(f:Nat->Int)(n:Nat):(enc f n).length=np n:=by
 have:=G_ n;unfold enc;rw[List.length_append,mF,List.length_replicate];omega
theorem fe(f:Nat->Int)(n i:Nat):(enc f n)[i]?.getD 0=if i<nl n then letter (sx f i) else if i<np n then 61 else 0:=by
 have hnn:=G_ n;unfold enc;by_cases h:i<nl n
 ·rw[if_pos h,List.getElem?_append_left (by rw[mF];exact h)];simp[lets,h]
 ·rw[if_neg h,List.getElem?_append_right (by rw[mF];omega),mF];by_cases h2:i<np n
  ·rw[if_pos h2,List.getElem?_replicate,if_pos (by omega)];rfl
  ·rw[if_neg h2,List.getElem?_replicate,if_neg (by omega)];rfl
theorem nK(s:ByteArray):Bytes (encS s):=by
 intro x hx;unfold encS enc at hx;rcases List.mem_append.1 hx with hx|hx
 ·obtain⟨i,_,rfl⟩:=List.mem_map.1 hx;have hb1:=jT (rD s) i;have:=oL hb1.1 hb1.2;omega
 ·have:=(List.mem_replicate.1 hx).2;omega
theorem kI(s:ByteArray):(strOfNums (encS s)).size=np s.size/\(∀i,i<nl s.size->bt (strOfNums (encS s)) i=letter (sx (bt s) i))/\(∀i,nl s.size<=i->i<np s.size->bt (strOfNums (encS s)) i=61):=by
 refine⟨by rw[iH];exact mJ _ _,λi hi=>?_,λi h1 h2=>?_⟩
 ·rw[vv (nK s)];unfold encS;rw[fe,if_pos hi]
 ·rw[vv (nK s)];unfold encS;rw[fe,if_neg (by omega),if_pos h2]
theorem Hf(s:ByteArray):bl (strOfNums (encS s))=nl s.size:=by
 obtain⟨b1,b2,b3⟩:=kI s;obtain⟨c1,c2,c3,c4⟩:=gT (strOfNums (encS s));have hnn:=G_ s.size;rw[b1] at c1 c3;rcases Nat.lt_trichotomy (bl (strOfNums (encS s))) (nl s.size) with h|h|h
 ·have h1:=c3 _ (Nat.le_refl _) (by omega);rw[b2 _ h] at h1;have hb1:=jT (rD s) (bl (strOfNums (encS s)));exact absurd h1 (oL hb1.1 hb1.2).2.2
 ·exact h
 ·exact absurd (b3 _ (by omega) (by omega)) (c4 (by omega))
theorem iY(s:ByteArray){i:Nat}(h:i<nl s.size):dv (strOfNums (encS s)) i=sx (bt s) i:=by
 unfold dv;rw[(kI s).2.1 i h];have hb1:=jT (rD s) i;exact Ao hb1.1 hb1.2
theorem Ho(s:ByteArray){j:Nat}(h:j<s.size):dx (dv (strOfNums (encS s))) j=bt s j:=by
 have hb:=rD s;obtain⟨q,hq⟩:∃q,j=3*q\/j=3*q+1\/j=3*q+2:=⟨j / 3,by omega⟩;have h0:=hb (3*q);have h1:=hb (3*q+1);have h2:=hb (3*q+2);rcases hq with rfl|rfl|rfl
 ·rw[P8,iY s (by unfold nl;omega),iY s (by unfold nl;omega),Zj,Vn];omega
 ·rw[P9,iY s (by unfold nl;omega),iY s (by unfold nl;omega),Vn,Vo];omega
 ·rw[P_,iY s (by unfold nl;omega),iY s (by unfold nl;omega),Vo,Zk];omega
theorem Vq(s:ByteArray):okD (strOfNums (encS s))=true/\iW (strOfNums (encS s))=s:=by
 obtain⟨b1,b2,b3⟩:=kI s;have hok:okD (strOfNums (encS s))=true:=by
  rw[iX,Hf,b1];refine⟨by unfold np;omega,by unfold np nl;omega,λi hi=>by rw[iY s hi];exact(jT (rD s) i).1,λh=>?_,λh=>?_⟩
  ·obtain⟨q,hq⟩:∃q,s.size=3*q+1:=⟨s.size / 3,by unfold nl at h;omega⟩;rw[iY s (by unfold nl;omega),show nl s.size-1=4*q+1 by unfold nl;omega,Vn,bt_end s (k:=3*q+1) (by omega)];omega
  ·obtain⟨q,hq⟩:∃q,s.size=3*q+2:=⟨s.size / 3,by unfold nl at h;omega⟩;rw[iY s (by unfold nl;omega),show nl s.size-1=4*q+2 by unfold nl;omega,Vo,bt_end s (k:=3*q+2) (by omega)];omega
 refine⟨hok,?_⟩;rw[qp hok,Hf];have hn:6*nl s.size / 8=s.size:=by unfold nl;omega
 rw[hn];apply Cj
 ·rw[iH,gQ]
 ·intro i hi;rw[iH,gQ] at hi;rw[vv (λx hx=>by
   obtain⟨j,hj,rfl⟩:=List.mem_map.1 hx;rw[Ho s (List.mem_range.1 hj)];exact rD s j)]
  unfold fC;rw[List.getElem?_map,List.getElem?_range hi];simp only[Option.map_some,Option.getD_some];exact Ho s hi
theorem Vr{t:ByteArray}(h:okD t=true):strOfNums (encS (iW t))=t:=by
 obtain⟨h1,h2,h3,h4,h5⟩:=(iX t).1 h;obtain⟨c1,c2,c3,c4⟩:=gT t;rw[qp h];generalize hm:bl t=m at*;have hd:∀i,i<m->0<=dv t i/\dv t i<64:=λi hi=>⟨h3 i hi,(dX t i).2⟩
 have hby:Bytes (fC (dv t) (6*m / 8)):=λx hx=>by
  obtain⟨j,hj,rfl⟩:=List.mem_map.1 hx;have:=List.mem_range.1 hj;exact yt (n:=m) hd (by omega)
 have hsz:(strOfNums (fC (dv t) (6*m / 8))).size=6*m / 8:=by rw[iH,gQ]
 have hv:∀j,bt (strOfNums (fC (dv t) (6*m / 8))) j=if j<6*m / 8 then dx (dv t) j else 0:=λj=>by
  rw[vv hby];unfold fC;by_cases hj:j<6*m / 8
  ·rw[if_pos hj,List.getElem?_map,List.getElem?_range hj];rfl
  ·rw[if_neg hj,List.getElem?_eq_none (by simp;omega)];rfl
 generalize strOfNums (fC (dv t) (6*m / 8))=v at*;obtain⟨b1,b2,b3⟩:=kI v;rw[hsz] at b1 b2 b3;obtain⟨u,n,Vs,hu⟩:∃u n,6*m / 8=n/\((m=4*u/\n=3*u/\t.size=4*u)\/(m=4*u+2/\n=3*u+1/\t.size=4*u+4)\/(m=4*u+3/\n=3*u+2/\t.size=4*u+4)):=by
  obtain⟨a,ha⟩:∃a,t.size=4*a:=⟨t.size / 4,by omega⟩;have h3:m=t.size\/(m+1=t.size\/m+2=t.size):=by omega
  rcases h3 with h3|h3|h3
  ·exact⟨a,3*a,by omega,.inl (by omega)⟩
  ·exact⟨a-1,3*(a-1)+2,by omega,.inr (.inr (by omega))⟩
  ·exact⟨a-1,3*(a-1)+1,by omega,.inr (.inl (by omega))⟩
 rw[Vs] at hsz hv b1 b2 b3;have hnl:nl n=m:=by rcases hu with h|h|h<;>(unfold nl;omega)
 have qG:np n=t.size:=by rcases hu with h|h|h<;>(unfold np;omega)
 clear Vs;rw[hnl] at b2 b3;rw[qG] at b1 b3;apply Cj
 ·exact b1
 ·intro i hi;rw[b1] at hi;by_cases him:i<m
  ·rw[b2 i him];have hsx:sx (bt v) i=dv t i:=by
    obtain⟨q,hq⟩:∃q,i=4*q\/i=4*q+1\/i=4*q+2\/i=4*q+3:=⟨i / 4,by omega⟩;have d0:=dX t (4*q);have d1:=dX t (4*q+1);have d2:=dX t (4*q+2);have d3:=dX t (4*q+3);rcases hq with rfl|rfl|rfl|rfl
    ·have e0:=h3 _ him;have e1:=h3 (4*q+1) (by omega);rw[Zj,hv,if_pos (by omega),P8];omega
    ·have e0:=h3 (4*q) (by omega);have e1:=h3 _ him;rw[Vn,hv,hv,if_pos (by omega),P8];by_cases hl:3*q+1<n
     ·have e2:=h3 (4*q+2) (by omega);rw[if_pos hl,P9];omega
     ·have:=h4 (by omega);rw[show m-1=4*q+1 by omega] at this;rw[if_neg hl];omega
    ·have e1:=h3 (4*q+1) (by omega);have e2:=h3 _ him;rw[Vo,hv,hv,if_pos (by omega),P9];by_cases hl:3*q+2<n
     ·have e3:=h3 (4*q+3) (by omega);rw[if_pos hl,P_];omega
     ·have:=h5 (by omega);rw[show m-1=4*q+2 by omega] at this;rw[if_neg hl];omega
    ·have e2:=h3 (4*q+2) (by omega);have e3:=h3 _ him;rw[Zk,hv,if_pos (by omega),P_];omega
   rw[hsx];unfold dv;exact Ap (h3 i him)
  ·rw[b3 i (by omega) hi,c3 i (by omega) hi]
theorem nL{l:List Int}{n:Nat}{a b c d:Int}(h:4*(n+1)<=l.length)(h0:l[4*n+0]?.getD 0=a)(h1:l[4*n+1]?.getD 0=b)(h2:l[4*n+2]?.getD 0=c)(h3:l[4*n+3]?.getD 0=d):l.take (4*(n+1))=l.take (4*n) ++ [a,b,c,d]:=by
 have g:∀i,i<l.length->l[i]?=some (l[i]?.getD 0):=λi hi=>by rw[List.getElem?_eq_getElem hi];rfl
 have e:∀i,i<l.length->l.take (i+1)=l.take i ++ [l[i]?.getD 0]:=λi hi=>by
  rw[List.take_add_one,g i hi];rfl
 rw[show 4*(n+1)=4*n+3+1 by omega,e _ (by omega),e _ (by omega),e _ (by omega),e _ (by omega)];rw[Nat.add_zero] at h0;rw[h0,h1,h2,h3];simp
end Go.Proofs.YtboehbfagnocpaaGreatDoor.B3.P
namespace Go.Proofs.YtboehbfagnocpaaGreatDoor.W2
open Go.RowKit Go.PlainAid
theorem bZ(s:ByteArray)(w:World)(hs:s.size<=maxLen):Calls Tryz.prog 157 #[.string s] w λe w'=>e=.returned (.bool (aO s))/\w=w':=by
 unfold maxLen at hs;have hb:=get_bt s;go_enter Tryz.func157,Tryz.ntmps157;go_wp2
 go_loop [3] (λi=> ∃k:Nat,k<=s.size/\i=.int .i64 k/\(∀j,j<k->32<bt s j/\bt s j≠127)) (λi=>s.size-(intOf i).toNat)
 case atStart=>exact⟨0,Nat.zero_le _,rfl,λj hj=>by omega⟩
 case round=>
  obtain⟨k,hk,rfl,hall⟩:=hrel;have eY:=Lib.hid hall;clear hall;by_cases hlt:k<s.size
  ·have hn:=bt_nonneg s k;have hl:=bt_le s k;by_cases h1:bt s k<=32
   ·go_wp2
    go_ret;exact⟨ay (lq (λh=>by have:=(h k hlt).1;omega)).symm,rfl⟩
   ·by_cases h2:bt s k=127
    ·have h2':(bt s k == 127)=true:=by simp[h2]
     have H2:=Lib.hid h2;clear h2;go_wp2
     go_ret;exact⟨ay (lq (λh=>(h k hlt).2 H2.out)).symm,rfl⟩
    ·have h2':(bt s k == 127)=false:=by simp[h2]
     have H2:=Lib.hid h2;clear h2;go_wp2
     go_round
     case rel=>
      refine⟨k+1,by omega,by go_num,λj hj=>?_⟩;rcases Nat.lt_succ_iff_lt_or_eq.1 hj with h|rfl
      ·exact eY.out j h
      ·exact⟨by omega,H2.out⟩
     case measure=>simp[intOf];omega
  ·by_cases h0:s.size=0
   ·obtain⟨e1,e2⟩:=dU h0;have UX:=Lib.hid (qj (s:=s) (by omega));have h0':decide (1<=(s.size:Int))=false:=by simp;omega
    clear h0;go_wp2
    go_ret;exact⟨ay UX.out.symm,rfl⟩
   ·obtain⟨e1,e2⟩:=bu (s:=s) (by omega);have h1':1<=s.size:=by omega
    have UY:=Lib.hid (uV (s:=s) (by omega) (λi hi=>eY.out i (by omega)));go_wp2
    go_ret;exact⟨ay UY.out.symm,rfl⟩
theorem Ck{ops:Array Oper}{rest:List Oper}{o:Oper}{a:Act}{Q:Exit->Act->World->Prop}(w0 w:World)(hgd:o.guard=none)(s x:Operand)
 (ho:o.op=.call {callee:=.builtin .append,args:=#[s,x],argTypes:=#[31,31]}) (base:Nat) (v:Value) (n:Nat) (xs:List ByteArray) (u:ByteArray)
 (hs:a.eval s=v) (hown:w.ownsRow base 9 1 v n (xs.map .string)) (hx:a.eval x=.slice (some ⟨w.heap.size,0,none⟩) 1 1)
 (hbel:Below base w0 w) (hn:n+1<1000000000000) (hbase:base<=w.heap.size)
 (h:∀g cap w',w'.ownsRow base 9 1 (.slice (some ⟨g,0,none⟩) (n+1) cap) (n+1) ((xs ++ [u]).map .string)->Below base w0 w'->wpList Tryz.prog ops Q rest (a.put o.dst (.slice (some ⟨g,0,none⟩) (n+1) cap)) w'):
 wpList Tryz.prog ops Q (o :: rest) a (w.alloc (.cells #[.string u] 9)):=by
 obtain⟨i0,hi,hz0,hz1,hz2⟩:=info_parts P7;refine wpList_append_own _ hgd s x 31 ho base 9 i0 (.string ⟨#[]⟩) 1 16 Tryz.underlying31 hi hz0 hz1 hz2 rfl (by decide) v n _ hs (hown.alloc _) ⟨w.heap.size,0,none⟩ 1 1 [.string u] hx (by simp) ?_ ?_ ?_ ?_ (by simp;omega) ?_
 ·intro j y hj;obtain rfl:j=0:=by have:=(List.getElem?_eq_some_iff.1 hj).1;simpa using this
  simp at hj;subst hj;simp[Addr.add]
 ·intro y hy;simp at hy;subst hy;rfl
 ·unfold maxLen;omega
 ·omega
 ·intro v' w' hown' hgrow hiff;have hb':Below base w0 w':=(hbel.alloc hbase _).grown hgrow (by simp;omega) (λk hk=>(hown.lt k hk).1);rcases hown'.2 with ⟨rfl,h0⟩|⟨g,cap,cur,rfl,_⟩
  ·omega
  ·exact h g cap w' (by simpa using hown') hb'
namespace P
theorem nI{s:ByteArray}{i a:Nat}{b:UInt8}(h:(sl s)[i]?=some b)(ha:a<=i):((sl s).take (i+1)).drop a=((sl s).take i).drop a ++ [b]:=by
 have hlt:=(List.getElem?_eq_some_iff.1 h).1;rw[List.take_add_one,h,List.drop_append_of_le_length (by rw[List.length_take];omega)];rfl
theorem drop_at{s:ByteArray}{i:Nat}{b:UInt8}(h:(sl s)[i]?=some b):(sl s).drop i=b :: (sl s).drop (i+1):=by
 obtain⟨hlt,hb⟩:=List.getElem?_eq_some_iff.1 h;rw[List.drop_eq_getElem_cons hlt,hb]
theorem kJ{s:ByteArray}{i a:Nat}(hi:i<=s.size):((sl s).take i).drop a= []↔i<=a:=by
 rw[List.drop_eq_nil_iff,List.length_take,bS];omega
end P
theorem iZ(s:ByteArray)(w:World)(hs:s.size<=4000000):Calls Tryz.prog 37 #[.string s] w (kG s w):=by
 have hb:=get_bt s;go_enter Tryz.func37,Tryz.ntmps37;go_wp2
 go_loopw [3,4,5] (λv f i wr=> ∃(k a n:Nat) (pre:List P.L) (ad:Option Addr) (cap:Nat),v=.slice ad n cap/\f=.int .i64 a/\i=.int .i64 k/\k<=s.size+1/\a<=k/\n<=k/\
  (k<=s.size->pre ++ P.go (((P.sl s).take k).drop a) ((P.sl s).drop k)=P.words s)/\(k=s.size+1->pre=P.words s)/\
  wr.ownsRow w.heap.size 9 1 (.slice ad n cap) n ((pre.map P.mk).map .string)/\Below w.heap.size w wr) (λ_ _ i _=>s.size+1-(intOf i).toNat)
 case atStart=>exact⟨0,0,0,[],none,0,rfl,rfl,rfl,by omega,by omega,by omega,λ_=>by simp[P.words],λh=>by omega,World.ownsRow_nil _ _ _ _,Below.refl _ _⟩
 case round=>
  obtain⟨k,a,n,pre,ad,cap,rfl,rfl,rfl,hk,hak,hnk,h1,h2,ho,hbl⟩:=hrel;by_cases hle:k<=s.size
  ·have Zn:(k:Int)<=(s.size:Int):=by omega
   have h3:=h1 hle;clear h1 h2;by_cases hlt:k<s.size
   ·obtain⟨b,hb1,hb2⟩:=P.lF hlt;have NA:(k:Int)<(s.size:Int):=by omega
    rw[P.drop_at hb1,P.iq] at h3;by_cases h32:b=32
    ·have hc:bt s k=32:=by rw[hb2,h32];rfl
     rw[if_pos h32] at h3;by_cases Qa:k<=a
     ·obtain rfl:a=k:=by omega
      rw[(P.kJ hle).2 (Nat.le_refl _),if_pos rfl] at h3;have H3:=Lib.hid h3;clear h3 hb1 hb2 h32;go_wp2_with (fail)
      go_roundw;case rel=>exact⟨a+1,a+1,n,pre,ad,cap,rfl,by go_num,by go_num,by omega,by omega,by omega,λ_=>by rw[(P.kJ (by omega)).2 (Nat.le_refl _)];exact H3.out,λh=>by omega,ho,hbl⟩
      case measure=>simp[intOf];omega
     ·have Zo:(a:Int)<(k:Int):=by omega
      have Vt:(a:Int)<=(k:Int):=by omega
      rw[if_neg (λh=>Qa ((P.kJ hle).1 h))] at h3;obtain⟨x,hx⟩:∃x,s.extract a k=x:=⟨_,rfl⟩;have Hx:=Lib.hid (show P.mk (((P.sl s).take k).drop a)=x by rw[<-hx,P.extract_mk]);have H3:=Lib.hid h3;clear h3 hb1 hb2 h32 Qa;go_wp2_with (at_builtin;go_must (refine Ck w wr rfl _ _ rfl w.heap.size (.slice ad n cap) n (pre.map P.mk) x rfl ho rfl hbl (by omega) hbl.size ?_);intro g2 cap2 w2 hown2 fP)
      go_roundw;case rel=>
       refine⟨k+1,k+1,n+1,pre ++ [((P.sl s).take k).drop a],some ⟨g2,0,none⟩,cap2,rfl,by go_num,by go_num,by omega,by omega,by omega,λ_=>?_,λh=>by omega,?_,fP⟩
       ·rw[(P.kJ (by omega)).2 (Nat.le_refl _),<-H3.out];simp
       ·rw[List.map_append,List.map_cons,List.map_nil,Hx.out];exact hown2
      case measure=>simp[intOf];omega
    ·have hc:¬bt s k=32:=λh=>h32 (P.qo (by rw[<-hb2,h];rfl))
     have hcb:(bt s k == 32)=false:=by simp[hc]
     rw[if_neg h32,<-P.nI hb1 hak] at h3;have H3:=Lib.hid h3;have Hc:=Lib.hid hc;clear h3 hb1 hb2 h32 hc;go_wp2_with (fail)
     go_roundw;case rel=>exact⟨k+1,a,n,pre,ad,cap,rfl,rfl,by go_num,by omega,by omega,by omega,λ_=>H3.out,λh=>by omega,ho,hbl⟩
     case measure=>simp[intOf];omega
   ·obtain rfl:k=s.size:=by omega
    have hd:(P.sl s).drop s.size= []:=List.drop_of_length_le (by rw[P.bS];exact Nat.le_refl _);rw[hd,P.rz] at h3;by_cases Qa:s.size<=a
    ·obtain rfl:a=s.size:=by omega
     rw[(P.kJ (Nat.le_refl _)).2 (Nat.le_refl _),if_pos rfl,List.append_nil] at h3;have H3:=Lib.hid h3;clear h3;go_wp2_with (fail)
     go_roundw;case rel=>exact⟨s.size+1,s.size+1,n,pre,ad,cap,rfl,by go_num,by go_num,by omega,by omega,by omega,λh=>by omega,λ_=>H3.out,ho,hbl⟩
     case measure=>simp[intOf]
    ·have Zo:(a:Int)<(s.size:Int):=by omega
     have Vt:(a:Int)<=(s.size:Int):=by omega
     rw[if_neg (λh=>Qa ((P.kJ (Nat.le_refl _)).1 h))] at h3;obtain⟨x,hx⟩:∃x,s.extract a s.size=x:=⟨_,rfl⟩;have Hx:=Lib.hid (show P.mk (((P.sl s).take s.size).drop a)=x by rw[<-hx,P.extract_mk]);have H3:=Lib.hid h3;clear h3 Qa;go_wp2_with (at_builtin;go_must (refine Ck w wr rfl _ _ rfl w.heap.size (.slice ad n cap) n (pre.map P.mk) x rfl ho rfl hbl (by omega) hbl.size ?_);intro g2 cap2 w2 hown2 fP)
     go_roundw;case rel=>
      refine⟨s.size+1,s.size+1,n+1,pre ++ [((P.sl s).take s.size).drop a],some ⟨g2,0,none⟩,cap2,rfl,by go_num,by go_num,by omega,by omega,by omega,λh=>by omega,λ_=>H3.out,?_,fP⟩;rw[List.map_append,List.map_cons,List.map_nil,Hx.out];exact hown2
     case measure=>simp[intOf]
  ·have hN:n=(P.words s).length:=by
    have:=ho.1;rw[h2 (by omega)] at this;simpa using this.symm
   have H2:=Lib.hid (h2 (by omega));have Zn:¬(k:Int)<=(s.size:Int):=by omega
   clear h1 h2;go_wp2_with (fail)
   go_ret;refine⟨_,rfl,?_,hbl⟩;rw[H2.out,List.map_map] at ho;rw[<-hN];exact ho
end Go.Proofs.YtboehbfagnocpaaGreatDoor.W2
