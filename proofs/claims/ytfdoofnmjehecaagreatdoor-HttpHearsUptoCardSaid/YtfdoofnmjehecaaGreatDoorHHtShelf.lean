import Derived.Shelf.Strings.Builder1
import Derived.Shelf.Small.Strs
import Derived.Shelf.Strings.SlTrimAscii
import Derived.Shelf.Unicode.ValidAny
import Derived.Shelf.Strconv.AtoiAll
import Derived.Shelf.Strconv.Itoa3
import Derived.Shelf.Sort.Plain
import Derived.Shelf.Slices.In.SortNone
import Derived.Shelf.Slices.CompactS
import Derived.Shelf.SlIter.Sorted
import Derived.Shelf.Strings.Cut
import Derived.Shelf.Strings.Search3
import Derived.Shelf.Strings.OnBuilder
import Derived.Shelf.Strings.Split
import Derived.Shelf.Strings.Replace
import Derived.Shelf.Strings.MapAny
import Derived.Shelf.Strings.IndexAnyAll
import Derived.Shelf.GgClosure.StringsRunes
import Derived.Ground.GgzProg
import Derived.Ground.GgwProg
import Derived.Ground.NamesProg
import Derived.Test.YtfdoofnmjehecaaGreatDoorProg
set_option linter.all false
set_option maxRecDepth 1000000
namespace Go.Proofs
open Go.Shelf
open Tryz
theorem tz{α:Type}{a:Option α}{b c:α}(h:a=some b)(k:b=c:=by kernel_rfl):a=some c:=h.trans (congrArg some k)
theorem qL{p:Prop}(h:p:=by(repeat' first|kernel_rfl|exact fun _=>rfl|constructor)):p:=h
def Tryz.zi4:Go.Shelf.Ren:=⟨fun|169=>60|n=>n,fun|70=>86|9=>9|0=>0|72=>89|37=>87|127=>155|3=>3|5=>5|n=>n,fun|n=>n⟩
theorem Tryz.zxz:Go.Proofs.Lays.n169 Tryz.prog Tryz.zi4:=qL
theorem Tryz.z8v:Builder.Extra Tryz.prog Tryz.zi4:={
 sizeBuilder:=by kernel_rfl
 liesBuilder:=by kernel_rfl
 t5:=underlying5
 a5:=isAgg5
 z5:=sizeOf5
 v5:=zeroValue5
 infoByte:=by kernel_rfl
 cellsByte:=by kernel_rfl
 sizeByte:=by kernel_rfl
 neB5:=by decide}
def Tryz.zi3:Go.Shelf.Ren:=⟨fun|156=>121|165=>105|166=>56|169=>60|240=>122|241=>214|276=>224|277=>269|n=>n,fun|31=>22|9=>9|3=>3|4=>4|0=>0|20=>20|72=>89|76=>92|70=>86|37=>87|75=>91|127=>155|164=>228|5=>5|80=>96|n=>n,fun|n=>n⟩
theorem Tryz.zxy:Go.Proofs.Lays.n156 Tryz.prog Tryz.zi3:=qL
theorem Tryz.z8u:Builder.Extra Tryz.prog Tryz.zi3:={
 sizeBuilder:=by kernel_rfl
 liesBuilder:=by kernel_rfl
 t5:=underlying5
 a5:=isAgg5
 z5:=sizeOf5
 v5:=zeroValue5
 infoByte:=by kernel_rfl
 cellsByte:=by kernel_rfl
 sizeByte:=by kernel_rfl
 neB5:=by decide}
def Tryz.zi2:Go.Shelf.Ren:=⟨fun|155=>212|154=>268|138=>208|165=>105|143=>96|166=>56|197=>103|169=>60|195=>265|218=>266|240=>122|241=>214|219=>206|260=>213|276=>224|277=>269|217=>261|225=>262|224=>263|267=>264|266=>297|314=>298|n=>n,fun|9=>9|3=>3|4=>4|72=>89|0=>0|76=>92|105=>141|21=>21|5=>5|70=>86|20=>20|37=>87|75=>91|127=>155|164=>228|46=>227|119=>255|139=>258|138=>257|146=>280|51=>260|80=>96|n=>n,fun|1=>0|3=>1|4=>2|n=>n⟩
theorem Tryz.zz075:Go.Proofs.Lays.n155 Tryz.prog Tryz.zi2:=qL
theorem Tryz.zee:Builder.Extra Tryz.prog Tryz.zi2:={
 sizeBuilder:=by kernel_rfl
 liesBuilder:=by kernel_rfl
 t5:=underlying5
 a5:=isAgg5
 z5:=sizeOf5
 v5:=zeroValue5
 infoByte:=by kernel_rfl
 cellsByte:=by kernel_rfl
 sizeByte:=by kernel_rfl
 neB5:=by decide}
def Tryz.zi5:Go.Shelf.Ren:=⟨fun|230=>36|197=>103|118=>104|165=>105|166=>56|168=>106|270=>107|167=>108|169=>60|260=>213|240=>122|241=>214|242=>215|276=>224|277=>269|278=>270|n=>n,fun|107=>69|9=>9|72=>89|0=>0|4=>4|3=>3|21=>21|105=>141|76=>92|5=>5|75=>91|70=>86|20=>20|37=>87|127=>155|119=>255|46=>227|139=>258|138=>257|164=>228|51=>260|80=>96|n=>n,fun|3=>1|4=>2|n=>n⟩
theorem Tryz.zz078:Go.Proofs.Lays.n230 Tryz.prog Tryz.zi5:=qL
theorem Tryz.zef:Builder.Extra Tryz.prog Tryz.zi5:={
 sizeBuilder:=by kernel_rfl
 liesBuilder:=by kernel_rfl
 t5:=underlying5
 a5:=isAgg5
 z5:=sizeOf5
 v5:=zeroValue5
 infoByte:=by kernel_rfl
 cellsByte:=by kernel_rfl
 sizeByte:=by kernel_rfl
 neB5:=by decide}
def Tryz.zq8:Go.Shelf.Ren:=⟨fun|137=>285|217=>261|266=>297|n=>n,fun|9=>9|5=>5|3=>3|n=>n,fun|n=>n⟩
theorem Tryz.zz06z:Go.Proofs.Lays.n137 Tryz.prog Tryz.zq8:=qL
def Tryz.zqe:Go.Shelf.Ren:=⟨fun|161=>244|231=>109|227=>111|233=>112|235=>114|228=>216|197=>103|151=>217|260=>213|152=>271|137=>285|119=>300|224=>263|225=>262|217=>261|266=>297|n=>n,fun|9=>9|4=>4|3=>3|5=>5|117=>150|116=>149|0=>0|124=>153|105=>141|21=>21|119=>255|46=>227|139=>258|138=>257|n=>n,fun|3=>1|4=>2|n=>n⟩
theorem Tryz.zz077:Go.Proofs.Lays.n161 Tryz.prog Tryz.zqe:=qL
def Tryz.zqd:Go.Shelf.Ren:=⟨fun|160=>38|232=>110|231=>109|227=>111|234=>113|233=>112|236=>115|235=>114|228=>216|271=>218|151=>217|197=>103|120=>272|152=>271|260=>213|137=>285|119=>300|224=>263|225=>262|217=>261|266=>297|n=>n,fun|9=>9|4=>4|3=>3|5=>5|117=>150|116=>149|0=>0|124=>153|21=>21|105=>141|46=>227|119=>255|139=>258|138=>257|n=>n,fun|3=>1|4=>2|n=>n⟩
theorem Tryz.zz076:Go.Proofs.Lays.n160 Tryz.prog Tryz.zqd:=qL
def Tryz.zcu:Go.Shelf.Ren:=⟨fun|196=>228|259=>286|n=>n,fun|9=>9|4=>4|3=>3|5=>5|12=>12|119=>255|0=>0|46=>227|139=>258|138=>257|53=>269|n=>n,fun|3=>1|4=>2|n=>n⟩
theorem Tryz.zy2:Go.Proofs.Lays.n196 Tryz.prog Tryz.zcu:=qL
def Tryz.znq:Go.Shelf.Ren:=⟨fun|172=>116|244=>219|245=>220|247=>273|279=>274|280=>275|281=>276|282=>277|287=>301|316=>302|171=>58|205=>303|321=>317|322=>318|243=>123|246=>225|283=>278|284=>279|285=>280|286=>281|129=>305|317=>304|318=>306|319=>307|320=>308|337=>319|338=>320|n=>n,fun|9=>9|3=>3|75=>91|76=>92|4=>4|5=>5|167=>262|37=>87|0=>0|85=>263|2=>2|168=>265|53=>269|175=>282|46=>227|210=>285|127=>155|145=>303|143=>301|21=>21|171=>268|173=>272|212=>288|51=>260|20=>20|213=>289|232=>306|233=>307|80=>96|n=>n,fun|15=>3|16=>4|17=>5|18=>6|19=>7|n=>n⟩
theorem Tryz.zls:Go.Proofs.LaysC.n172 Tryz.prog Tryz.znq:=qL
def Tryz.zns:Go.Shelf.Ren:=⟨fun|171=>58|243=>123|246=>225|283=>278|284=>279|285=>280|286=>281|129=>305|317=>304|318=>306|319=>307|320=>308|337=>319|338=>320|n=>n,fun|3=>3|9=>9|2=>2|4=>4|171=>268|0=>0|53=>269|37=>87|5=>5|173=>272|212=>288|51=>260|20=>20|213=>289|46=>227|232=>306|233=>307|n=>n,fun|17=>5|18=>6|19=>7|n=>n⟩
theorem Tryz.zz02f:Go.Proofs.LaysM.n171 Tryz.prog Tryz.zns:=qL
def Tryz.zqf:Go.Shelf.Ren:=⟨fun|190=>322|125=>327|258=>326|128=>337|129=>305|302=>328|303=>329|304=>330|305=>331|306=>332|307=>333|308=>334|309=>335|310=>336|333=>338|329=>339|330=>340|334=>341|335=>342|336=>343|344=>344|n=>n,fun|31=>22|9=>9|3=>3|46=>227|0=>0|51=>260|53=>269|4=>4|183=>312|182=>311|131=>73|5=>5|218=>317|222=>184|228=>322|229=>323|n=>n,fun|n=>n⟩
theorem Tryz.zy0:Go.Proofs.Lays.n190 Tryz.prog Tryz.zqf:=qL
def Tryz.zqg:Go.Shelf.Ren:=⟨fun|194=>312|n=>n,fun|31=>22|9=>9|3=>3|4=>4|0=>0|n=>n,fun|n=>n⟩
theorem Tryz.zy1:Go.Proofs.Lays.n194 Tryz.prog Tryz.zqg:=qL
def Tryz.za5:Go.Shelf.Ren:=⟨fun|6=>310|8=>321|9=>322|11=>325|13=>327|12=>326|23=>337|24=>305|14=>328|15=>329|16=>330|17=>331|18=>332|19=>333|20=>334|21=>335|22=>336|25=>338|26=>339|27=>340|28=>341|29=>342|30=>343|31=>344|n=>n,fun|26=>9|28=>294|24=>22|0=>0|3=>3|37=>227|48=>260|50=>269|4=>4|40=>312|39=>311|45=>73|5=>5|9=>9|51=>317|55=>184|57=>322|58=>323|33=>32|n=>n,fun|n=>n⟩
theorem Tryz.zzt:Go.Proofs.SlLaysZ.n6 Tryz.prog Tryz.za5:={
 mixed:=by kernel_rfl
 f6:=⟨Tryz.f310.name,by decide,Tryz.func310.trans (congrArg some (by kernel_rfl))⟩
 f8:=⟨Tryz.f321.name,by decide,Tryz.func321.trans (congrArg some (by kernel_rfl))⟩
 f11:=⟨Tryz.f325.name,by decide,Tryz.func325.trans (congrArg some (by kernel_rfl))⟩
 t0:=underlying0
 a0:=isAgg0
 z0:=sizeOf0
 v0:=zeroValue0
 t24:=underlying22
 a24:=isAgg22
 z24:=sizeOf22
 v24:=zeroValue22
 t26:=underlying9
 a26:=isAgg9
 z26:=sizeOf9
 v26:=zeroValue9
 t28:=underlying294
 a28:=isAgg294
 z28:=sizeOf294
 v28:=zeroValue294
 i26:=by kernel_rfl}
def Tryz.zq9:Go.Shelf.Ren:=⟨fun|143=>96|219=>206|217=>261|225=>262|224=>263|267=>264|266=>297|314=>298|n=>n,fun|9=>9|3=>3|4=>4|5=>5|46=>227|146=>280|51=>260|n=>n,fun|1=>0|n=>n⟩
theorem Tryz.zz070:Go.Proofs.Lays.n143 Tryz.prog Tryz.zq9:=qL
def Tryz.zqa:Go.Shelf.Ren:=⟨fun|144=>238|143=>96|219=>206|217=>261|225=>262|224=>263|267=>264|266=>297|314=>298|n=>n,fun|9=>9|4=>4|3=>3|5=>5|46=>227|146=>280|51=>260|n=>n,fun|1=>0|n=>n⟩
theorem Tryz.zz071:Go.Proofs.Lays.n144 Tryz.prog Tryz.zqa:=qL
def Tryz.zqb:Go.Shelf.Ren:=⟨fun|145=>35|220=>102|219=>206|217=>261|225=>262|224=>263|267=>264|266=>297|314=>298|n=>n,fun|9=>9|4=>4|59=>66|3=>3|5=>5|46=>227|146=>280|51=>260|n=>n,fun|1=>0|n=>n⟩
theorem Tryz.zz072:Go.Proofs.Lays.n145 Tryz.prog Tryz.zqb:=qL
def Tryz.zi1:Go.Shelf.Ren:=⟨fun|146=>33|221=>97|268=>207|138=>208|143=>96|195=>265|197=>103|218=>266|219=>206|260=>213|217=>261|225=>262|224=>263|267=>264|266=>297|314=>298|n=>n,fun|9=>9|31=>22|3=>3|4=>4|0=>0|105=>141|21=>21|5=>5|46=>227|119=>255|139=>258|138=>257|146=>280|51=>260|n=>n,fun|1=>0|3=>1|4=>2|n=>n⟩
theorem Tryz.zz073:Go.Proofs.Lays.n146 Tryz.prog Tryz.zi1:=qL
def Tryz.zqc:Go.Shelf.Ren:=⟨fun|150=>211|153=>267|152=>271|226=>299|227=>111|228=>216|137=>285|119=>300|224=>263|225=>262|217=>261|266=>297|n=>n,fun|9=>9|4=>4|3=>3|5=>5|21=>21|117=>150|116=>149|0=>0|46=>227|124=>153|n=>n,fun|n=>n⟩
theorem Tryz.zz074:Go.Proofs.Lays.n150 Tryz.prog Tryz.zqc:=qL
def Tryz.znr:Go.Shelf.Ren:=⟨fun|17=>230|15=>287|20=>313|n=>n,fun|9=>9|23=>235|4=>4|3=>3|0=>0|21=>21|n=>n,fun|n=>n⟩
theorem Tryz.zz02e:Go.Proofs.LaysGw.n17 Tryz.prog Tryz.znr:=qL
end Go.Proofs
