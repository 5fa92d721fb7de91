/- Texts laid together. No condition but what each law says. -/
import Derived.Test.YtgppcdfgdaggjaaGreatDoorN01
import Derived.Shelf.Strings.Builder1
import Derived.Shelf.Strings.Builder2
import Derived.Shelf.Strings.BuilderF
import Derived.Shelf.Strings.BuilderK
import Derived.Shelf.Strings.Builder2Cap
import Derived.Shelf.Strconv.Itoa0
import Derived.Shelf.Strconv.Itoa1
import Derived.Shelf.LaysM
import Derived.Shelf.Strconv.Itoa2
import Derived.Shelf.Strconv.Itoa3
import Derived.Shelf.Strconv.Itoa4
import Derived.Shelf.Strconv.ParseIntEmpty
import Derived.Shelf.Strconv.Clone
import Derived.Shelf.Strconv.SyntaxError
import Derived.Shelf.LaysC
import Derived.Shelf.Strconv.ToError
import Derived.Shelf.Strconv.Lower
import Derived.Shelf.Strconv.ParseUint10
import Derived.Shelf.Strconv.ParseUint10Empty
import Derived.Shelf.Strconv.ParseUint10Any
import Derived.Shelf.Strconv.ParseInt10
import Derived.Shelf.Strconv.RangeError
import Derived.Shelf.Strconv.ToErrorRange
import Derived.Shelf.Strconv.ParseUintEmpty
import Derived.Shelf.Strconv.ParseUint10b64
import Derived.Shelf.Strconv.ParseUint10b32
import Derived.Shelf.Strconv.ParseUint10b16
import Derived.Shelf.Strconv.ParseUint10b8
import Derived.Shelf.Strconv.ParseUint10At
import Derived.Shelf.Strconv.ParseInt10At64
import Derived.Shelf.Strconv.ParseInt10At32
import Derived.Shelf.Strconv.ParseInt10At16
import Derived.Shelf.Strconv.ParseInt10At8
import Derived.Shelf.Strconv.ParseInt10All
import Derived.Shelf.Strconv.ParseIntPublic10
import Derived.Shelf.Strconv.ErrVarParseInt
import Derived.Shelf.Strings.Prefix
import Derived.Shelf.Bits.Mul64
import Derived.Shelf.Strings.Repeat
import Derived.Shelf.Strings.BuilderCap
import Derived.Test.YtgppcdfgdaggjaaGreatDoorProg
namespace Go.Proofs
open Go.Shelf
open Go.Proofs.Tryz
open Go renaming Calls → Jq, World → Fk, Value → Fr
open Go.Lib renaming parseIntB → IJ
open Go.RowKit renaming Below → FM
def Tryz.Ep:Go.Shelf.Ren:=⟨fun|174=>167|247=>185|245=>186|287=>194|279=>195|280=>196|281=>197|282=>198|321=>199|322=>200|316=>201|171=>203|205=>202|243=>204|246=>128|283=>153|284=>154|285=>155|286=>156|129=>173|317=>172|318=>174|319=>175|320=>176|337=>188|338=>189|n=>n,fun|9=>9|3=>3|2=>2|75=>212|85=>251|4=>4|167=>275|5=>5|53=>238|175=>276|46=>243|168=>278|37=>52|0=>0|210=>286|21=>21|127=>179|145=>290|143=>288|171=>237|173=>241|212=>261|51=>262|20=>20|213=>263|232=>281|233=>282|80=>133|n=>n,fun|15=>6|16=>7|17=>2|18=>3|19=>4|n=>n⟩
theorem Tryz.Et:Go.Proofs.LaysC.n174 prog Tryz.Ep:={
 mixed:=by kernel_rfl
 f129:=func173.trans (congrArg some (by kernel_rfl))
 f171:=func203.trans (congrArg some (by kernel_rfl))
 f174:=func167.trans (congrArg some (by kernel_rfl))
 f205:=func202.trans (congrArg some (by kernel_rfl))
 f243:=func204.trans (congrArg some (by kernel_rfl))
 f245:=func186.trans (congrArg some (by kernel_rfl))
 f246:=func128.trans (congrArg some (by kernel_rfl))
 f247:=func185.trans (congrArg some (by kernel_rfl))
 f279:=func195.trans (congrArg some (by kernel_rfl))
 f280:=func196.trans (congrArg some (by kernel_rfl))
 f281:=func197.trans (congrArg some (by kernel_rfl))
 f282:=func198.trans (congrArg some (by kernel_rfl))
 f283:=func153.trans (congrArg some (by kernel_rfl))
 f284:=func154.trans (congrArg some (by kernel_rfl))
 f285:=func155.trans (congrArg some (by kernel_rfl))
 f286:=func156.trans (congrArg some (by kernel_rfl))
 f287:=func194.trans (congrArg some (by kernel_rfl))
 f316:=func201.trans (congrArg some (by kernel_rfl))
 f317:=func172.trans (congrArg some (by kernel_rfl))
 f318:=func174.trans (congrArg some (by kernel_rfl))
 f319:=func175.trans (congrArg some (by kernel_rfl))
 f320:=func176.trans (congrArg some (by kernel_rfl))
 f321:=func199.trans (congrArg some (by kernel_rfl))
 f322:=func200.trans (congrArg some (by kernel_rfl))
 f337:=func188.trans (congrArg some (by kernel_rfl))
 f338:=func189.trans (congrArg some (by kernel_rfl))
 t0:=underlying0
 a0:=isAgg0
 z0:=sizeOf0
 v0:=zeroValue0
 t2:=underlying2
 a2:=isAgg2
 z2:=sizeOf2
 v2:=zeroValue2
 t3:=underlying3
 a3:=isAgg3
 z3:=sizeOf3
 v3:=zeroValue3
 t4:=underlying4
 a4:=isAgg4
 z4:=sizeOf4
 v4:=zeroValue4
 t5:=underlying5
 a5:=isAgg5
 z5:=sizeOf5
 v5:=zeroValue5
 t9:=underlying9
 a9:=isAgg9
 z9:=sizeOf9
 v9:=zeroValue9
 t20:=underlying20
 a20:=isAgg20
 z20:=sizeOf20
 v20:=zeroValue20
 t21:=underlying21
 a21:=isAgg21
 z21:=sizeOf21
 v21:=zeroValue21
 t37:=underlying52
 a37:=isAgg52
 z37:=sizeOf52
 v37:=zeroValue52
 t46:=underlying243
 a46:=isAgg243
 z46:=sizeOf243
 v46:=zeroValue243
 t51:=underlying262
 a51:=isAgg262
 z51:=sizeOf262
 v51:=zeroValue262
 t53:=underlying238
 a53:=isAgg238
 z53:=sizeOf238
 v53:=zeroValue238
 t75:=underlying212
 a75:=isAgg212
 z75:=sizeOf212
 v75:=zeroValue212
 t85:=underlying251
 a85:=isAgg251
 z85:=sizeOf251
 v85:=zeroValue251
 t127:=underlying179
 a127:=isAgg179
 z127:=sizeOf179
 v127:=zeroValue179
 t143:=underlying288
 a143:=isAgg288
 z143:=sizeOf288
 v143:=zeroValue288
 t145:=underlying290
 a145:=isAgg290
 z145:=sizeOf290
 v145:=zeroValue290
 t167:=underlying275
 a167:=isAgg275
 z167:=sizeOf275
 v167:=zeroValue275
 t168:=underlying278
 a168:=isAgg278
 z168:=sizeOf278
 v168:=zeroValue278
 t171:=underlying237
 a171:=isAgg237
 z171:=sizeOf237
 v171:=zeroValue237
 t173:=underlying241
 a173:=isAgg241
 z173:=sizeOf241
 v173:=zeroValue241
 t175:=underlying276
 a175:=isAgg276
 z175:=sizeOf276
 v175:=zeroValue276
 t210:=underlying286
 a210:=isAgg286
 z210:=sizeOf286
 v210:=zeroValue286
 t212:=underlying261
 a212:=isAgg261
 z212:=sizeOf261
 v212:=zeroValue261
 t213:=underlying263
 a213:=isAgg263
 z213:=sizeOf263
 t232:=underlying281
 a232:=isAgg281
 z232:=sizeOf281
 v232:=zeroValue281
 t233:=underlying282
 a233:=isAgg282
 z233:=sizeOf282
 v233:=zeroValue282
 g15:=by kernel_rfl
 g16:=by kernel_rfl
 g17:=by kernel_rfl
 g18:=by kernel_rfl
 g19:=by kernel_rfl
 t80:=underlying133
 a80:=isAgg133
 z80:=sizeOf133
 v80:=zeroValue133
 i0:=by kernel_rfl
 i2:=by kernel_rfl
 i3:=by kernel_rfl
 i4:=by kernel_rfl
 i5:=by kernel_rfl
 i9:=by kernel_rfl
 i20:=by kernel_rfl
 i21:=by kernel_rfl
 i37:=by kernel_rfl
 i46:=by kernel_rfl
 i51:=by kernel_rfl
 i53:=by kernel_rfl
 i75:=by kernel_rfl
 i80:=by kernel_rfl
 i85:=by kernel_rfl
 i127:=by kernel_rfl
 i143:=by kernel_rfl
 i145:=by kernel_rfl
 i167:=by kernel_rfl
 i168:=by kernel_rfl
 i171:=by kernel_rfl
 i173:=by kernel_rfl
 i175:=by kernel_rfl
 i210:=by kernel_rfl
 i212:=by kernel_rfl
 i232:=by kernel_rfl
 i233:=by kernel_rfl
 m15:=by kernel_rfl
 m16:=by kernel_rfl
 m17:=by kernel_rfl
 m18:=by kernel_rfl
 m19:=by kernel_rfl
 c0:=by kernel_rfl
 c2:=by kernel_rfl
 c3:=by kernel_rfl
 c4:=by kernel_rfl
 c5:=by kernel_rfl
 c9:=by kernel_rfl
 c20:=by kernel_rfl
 c21:=by kernel_rfl
 c37:=by kernel_rfl
 c46:=by kernel_rfl
 c51:=by kernel_rfl
 c53:=by kernel_rfl
 c75:=by kernel_rfl
 c80:=by kernel_rfl
 c85:=by kernel_rfl
 c127:=by kernel_rfl
 c143:=by kernel_rfl
 c145:=by kernel_rfl
 c167:=by kernel_rfl
 c168:=by kernel_rfl
 c171:=by kernel_rfl
 c173:=by kernel_rfl
 c175:=by kernel_rfl
 c210:=by kernel_rfl
 c212:=by kernel_rfl
 c213:=by kernel_rfl
 c232:=by kernel_rfl
 c233:=by kernel_rfl}
open Go.RowKit in
theorem Tryz.strconv_ParseInt_10_at64_ok(s:ByteArray)(g:s.size<=9223372036854775806)(v:Int)(h:IJ 64 s.data.toList= .ok v)(w:Fk):
  Jq prog 167 #[.string s,.int .i64 10,.int .i64 64] w fun e w'=>e= .returned (.tuple #[.int .i64 v,.nilIface])/\(w'=w∨∃t,w'=Lib.bytesWorld w 5 t):=Any.strconv_ParseInt_10_at64_ok Tryz.Et s g v h w
open Go.RowKit in
theorem Tryz.strconv_ParseInt_10_at64_range(s:ByteArray)(A:s.size<=281474976710656)(h:IJ 64 s.data.toList= .range)(ev:Fr)(w:Fk)(C:w.cell? ⟨7,0,none⟩=some ev)(j:ev= .nilIface∨∃E D,ev= .iface E D):
  Jq prog 167 #[.string s,.int .i64 10,.int .i64 64] w fun e w'=>∃g,e= .returned (.tuple #[.int .i64 (Lib.intSat 64 s.data.toList),.iface 278 (.pointer (some ⟨g,0,none⟩))])/\w.1.size<=g/\w'.1[g]? =some (.cells #[.string ⟨#[80,97,114,115,101,73,110,116]⟩,.string s,ev] 286 (0,0))/\FM w.1.size w w':=Any.strconv_ParseInt_10_at64_range Tryz.Et s A h ev w C j
end Go.Proofs
