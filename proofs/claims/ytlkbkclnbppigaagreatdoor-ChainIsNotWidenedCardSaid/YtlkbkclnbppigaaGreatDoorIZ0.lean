/-
  DERIVED: THE SHELF's CONTRACTS AT THIS DUMP, IN PLAIN WORDS (tools/lay-plain.mjs out of 'TryzShelf.lean', which tools/lay-shelf.mjs wrote): THE SAME DECLARATIONS UNDER THE SAME NAMES: 'import', 'namespace', 'open', 'def', 'theorem' AND NOTHING ELSE: no command of the shelf's: FOR A HAND-IN. Each laying: the table of numbers ('.._ren') and one theorem, a field a fact of the dump's own or the kernel's comparison; each contract: ONE APPLICATION.
-/
import Derived.Shelf.Strings.OnBuilder
import Derived.Shelf.Small.Strs
import Derived.Shelf.Small.Wraps
import Derived.Shelf.Strings.BuilderK
import Derived.Shelf.Strconv.Itoa3
import Derived.Shelf.Strconv.ErrVar
import Derived.Shelf.Strconv.ErrVarAll
import Derived.Shelf.Strings.Shaped
import Derived.Shelf.Sort.Plain
import Derived.Shelf.Strings.SplitShaped
import Derived.Shelf.Strings.FuncGrows
import Derived.Shelf.Slices.Turned
import Derived.Shelf.Slices.Clone
import Derived.Shelf.Slices.Cells
import Derived.Shelf.Slices.In.SortNone
import Derived.Shelf.SlicesE.Clone
import Derived.Shelf.SlicesE.DeleteFunc
import Derived.Test.YtlkbkclnbppigaaGreatDoorProg
import Derived.Test.YtlkbkclnbppigaaGreatDoorIHost
namespace Go.Proofs
open Tryz
open Go.Shelf
def Tryz.lays169_ren:Go.Shelf.Ren:=⟨fun | 169=>135 | n=>n,fun | 70=>172 | 9=>9 | 0=>0 | 72=>174 | 37=>105 | 127=>237 | 3=>3 | 5=>5 | n=>n,fun | n=>n⟩
theorem Tryz.lays169:Go.Proofs.Lays.n169 prog lays169_ren:={
 mixed:=aG
 f169:=aO func135
 t0:=underlying0
 a0:=isAgg0
 z0:=sizeOf0
 v0:=zeroValue0
 t3:=underlying3
 a3:=isAgg3
 z3:=sizeOf3
 v3:=zeroValue3
 t9:=underlying9
 a9:=isAgg9
 z9:=sizeOf9
 v9:=zeroValue9
 t37:=underlying105
 a37:=isAgg105
 z37:=sizeOf105
 v37:=zeroValue105
 t70:=underlying172
 a70:=isAgg172
 z70:=sizeOf172
 v70:=zeroValue172
 t72:=underlying174
 a72:=isAgg174
 z72:=sizeOf174
 v72:=zeroValue174
 t127:=underlying237
 a127:=isAgg237
 z127:=sizeOf237
 v127:=zeroValue237 }
theorem Tryz.Builder_Extra_169:Builder.Extra prog lays169_ren:={
 sizeBuilder:=aG
 liesBuilder:=aG
 t5:=underlying5
 a5:=isAgg5
 z5:=sizeOf5
 v5:=zeroValue5
 infoByte:=aG
 cellsByte:=aG
 sizeByte:=aG
 neB5:=by decide }
open Go.RowKit in
theorem Tryz.Builder_String_any(B b:Nat)(l:List UInt8)(w:World)(h:Lib.IsBuilder 174 5 B b (Lib.byteCells l) w)(hBw:B<=w.heap.size) :
  Calls prog 135 #[.pointer (some ⟨b,0,none⟩)] w fun e w'=>e=.returned (.string ⟨l.toArray⟩)/\Below B w w':=Any.Builder_String_any lays169 Builder_Extra_169 B b l w h hBw
def Tryz.lays156_ren:Go.Shelf.Ren:=⟨fun | 156=>72 | 165=>133 | 166=>134 | 169=>135 | 240=>194 | 241=>195 | 276=>247 | 277=>248 | n=>n,fun | 31=>24 | 9=>9 | 3=>3 | 4=>4 | 0=>0 | 20=>20 | 72=>174 | 76=>178 | 70=>172 | 37=>105 | 75=>177 | 127=>237 | 164=>282 | 5=>5 | 80=>180 | n=>n,fun | n=>n⟩
theorem Tryz.lays156:Go.Proofs.Lays.n156 prog lays156_ren:={
 mixed:=aG
 f156:=aO func72
 f165:=aO func133
 f166:=aO func134
 f169:=aO func135
 f240:=aO func194
 f241:=aO func195
 f276:=aO func247
 f277:=aO func248
 t0:=underlying0
 a0:=isAgg0
 z0:=sizeOf0
 v0:=zeroValue0
 t3:=underlying3
 a3:=isAgg3
 z3:=sizeOf3
 v3:=zeroValue3
 t4:=underlying4
 a4:=isAgg4
 z4:=sizeOf4
 v4:=zeroValue4
 t9:=underlying9
 a9:=isAgg9
 z9:=sizeOf9
 v9:=zeroValue9
 t20:=underlying20
 a20:=isAgg20
 z20:=sizeOf20
 v20:=zeroValue20
 t31:=underlying24
 a31:=isAgg24
 z31:=sizeOf24
 v31:=zeroValue24
 t37:=underlying105
 a37:=isAgg105
 z37:=sizeOf105
 v37:=zeroValue105
 t70:=underlying172
 a70:=isAgg172
 z70:=sizeOf172
 v70:=zeroValue172
 t72:=underlying174
 a72:=isAgg174
 z72:=sizeOf174
 v72:=zeroValue174
 t75:=underlying177
 a75:=isAgg177
 z75:=sizeOf177
 v75:=zeroValue177
 t76:=underlying178
 a76:=isAgg178
 z76:=sizeOf178
 v76:=zeroValue178
 t127:=underlying237
 a127:=isAgg237
 z127:=sizeOf237
 v127:=zeroValue237
 t164:=underlying282
 a164:=isAgg282
 z164:=sizeOf282
 v164:=zeroValue282 }
theorem Tryz.Builder_Extra_156:Builder.Extra prog lays156_ren:={
 sizeBuilder:=aG
 liesBuilder:=aG
 t5:=underlying5
 a5:=isAgg5
 z5:=sizeOf5
 v5:=zeroValue5
 infoByte:=aG
 cellsByte:=aG
 sizeByte:=aG
 neB5:=by decide }
open Go.RowKit in
theorem Tryz.strings_Join_none(a:Option Addr)(c:Nat)(sep:aC)(w:World) :
  Calls prog 72 #[.slice a 0 c,.string sep] w fun e w'=>e=.returned (.string ⟨#[]⟩)/\w'=w:=Any.strings_Join_none lays156 Builder_Extra_156 a c sep w
open Go.RowKit in
theorem Tryz.strings_Join(bk o c:Nat)(xs:List aC)(sep:aC)(w:World)(hcells:∀ (j:Nat) x,xs[j]? = some x->w.cell? ⟨bk,o+j,none⟩=some (.string x))(hbk:bk<w.heap.size)(hN:xs.length<=140737488355328)(hcap:xs.length<=c)(hlen:(Lib.join (xs.map (·.data.toList)) sep.data.toList).length<=140737488355328) :
  Calls prog 72 #[.slice (some ⟨bk,o,none⟩) xs.length c,.string sep] w fun e w'=>e=.returned (.string ⟨(Lib.join (xs.map (·.data.toList)) sep.data.toList).toArray⟩)/\aF w w':=Any.strings_Join lays156 Builder_Extra_156 bk o c xs sep w hcells hbk hN hcap hlen
def Tryz.lays137_ren:Go.Shelf.Ren:=⟨fun | 137=>79 | 217=>141 | 266=>201 | n=>n,fun | 9=>9 | 5=>5 | 3=>3 | n=>n,fun | n=>n⟩
theorem Tryz.lays137:Go.Proofs.Lays.n137 prog lays137_ren:={
 mixed:=aG
 f137:=aO func79
 f217:=aO func141
 f266:=aO func201
 t3:=underlying3
 a3:=isAgg3
 z3:=sizeOf3
 v3:=zeroValue3
 t5:=underlying5
 a5:=isAgg5
 z5:=sizeOf5
 v5:=zeroValue5
 t9:=underlying9
 a9:=isAgg9
 z9:=sizeOf9
 v9:=zeroValue9 }
open Go.RowKit in
theorem Tryz.strings_IndexByte(s:aC)(c:Int)(w:World) :
  Calls prog 79 #[.string s,.int .u8 c] w fun e w'=>e=.returned (.int .i64 (Lib.indexByte s.data.toList c.toNat.toUInt8))/\w'=w:=Any.strings_IndexByte lays137 s c w
def Tryz.laysM171_ren:Go.Shelf.Ren:=⟨fun | 171=>57 | 243=>121 | 246=>180 | 283=>232 | 284=>233 | 285=>234 | 286=>235 | 129=>284 | 317=>288 | 318=>289 | 319=>290 | 320=>291 | 337=>311 | 338=>312 | n=>n,fun | 3=>3 | 9=>9 | 2=>2 | 4=>4 | 171=>270 | 0=>0 | 53=>150 | 37=>105 | 5=>5 | 173=>273 | 212=>314 | 51=>147 | 20=>20 | 213=>315 | 46=>106 | 232=>156 | 233=>149 | n=>n,fun | 17=>3 | 18=>8 | 19=>9 | n=>n⟩
theorem Tryz.laysM171:Go.Proofs.LaysM.n171 prog laysM171_ren:={
 mixed:=aG
 f129:=aO func284
 f171:=aO func57
 f243:=aO func121
 f246:=aO func180
 f283:=aO func232
 f284:=aO func233
 f285:=aO func234
 f286:=aO func235
 f317:=aO func288
 f318:=aO func289
 f319:=aO func290
 f320:=aO func291
 f337:=aO func311
 f338:=aO func312
 t0:=underlying0
 a0:=isAgg0
 z0:=sizeOf0
 v0:=zeroValue0
 t2:=underlying2
 a2:=isAgg2
 z2:=sizeOf2
 v2:=zeroValue2
 t3:=underlying3
 a3:=isAgg3
 z3:=sizeOf3
 v3:=zeroValue3
 t4:=underlying4
 a4:=isAgg4
 z4:=sizeOf4
 v4:=zeroValue4
 t5:=underlying5
 a5:=isAgg5
 z5:=sizeOf5
 v5:=zeroValue5
 t9:=underlying9
 a9:=isAgg9
 z9:=sizeOf9
 v9:=zeroValue9
 t20:=underlying20
 a20:=isAgg20
 z20:=sizeOf20
 v20:=zeroValue20
 t37:=underlying105
 a37:=isAgg105
 z37:=sizeOf105
 v37:=zeroValue105
 t46:=underlying106
 a46:=isAgg106
 z46:=sizeOf106
 v46:=zeroValue106
 t51:=underlying147
 a51:=isAgg147
 z51:=sizeOf147
 v51:=zeroValue147
 t53:=underlying150
 a53:=isAgg150
 z53:=sizeOf150
 v53:=zeroValue150
 t171:=underlying270
 a171:=isAgg270
 z171:=sizeOf270
 v171:=zeroValue270
 t173:=underlying273
 a173:=isAgg273
 z173:=sizeOf273
 v173:=zeroValue273
 t212:=underlying314
 a212:=isAgg314
 z212:=sizeOf314
 v212:=zeroValue314
 t213:=underlying315
 a213:=isAgg315
 z213:=sizeOf315
 t232:=underlying156
 a232:=isAgg156
 z232:=sizeOf156
 v232:=zeroValue156
 t233:=underlying149
 a233:=isAgg149
 z233:=sizeOf149
 v233:=zeroValue149
 g17:=aG
 g18:=aG
 g19:=aG
 i0:=aG
 i2:=aG
 i3:=aG
 i4:=aG
 i5:=aG
 i9:=aG
 i20:=aG
 i37:=aG
 i46:=aG
 i51:=aG
 i53:=aG
 i171:=aG
 i173:=aG
 i212:=aG
 i232:=aG
 i233:=aG
 m17:=aG
 m18:=aG
 m19:=lF}
open Go.RowKit Go.Sort Go.Lib in
theorem Tryz.strconv_Itoa(n:Int)(h0 : -9223372036854775808<=n)(h1:n<=9223372036854775807)(w:World)(htab:Lib.TabIs prog w "internal/strconv.uint64pow10" .u64 Lib.pow10Tab) :
  Calls prog 57 #[.int .i64 n] w fun e w'=>e=.returned (.string ⟨(Lib.itoa n).toArray⟩)/\∃ k os,w'=grow (w.drewN k) os:=Any.strconv_Itoa laysM171 n h0 h1 w htab
def Tryz.laysM316_ren:Go.Shelf.Ren:=⟨fun | 316=>246 | n=>n,fun | 9=>9 | 3=>3 | 4=>4 | 37=>105 | 0=>0 | 127=>237 | 5=>5 | n=>n,fun | n=>n⟩
theorem Tryz.laysM316:Go.Proofs.LaysM.n316 prog laysM316_ren:={
 mixed:=aG
 f316:=aO func246
 t0:=underlying0
 a0:=isAgg0
 z0:=sizeOf0
 v0:=zeroValue0
 t3:=underlying3
 a3:=isAgg3
 z3:=sizeOf3
 v3:=zeroValue3
 t4:=underlying4
 a4:=isAgg4
 z4:=sizeOf4
 v4:=zeroValue4
 t9:=underlying9
 a9:=isAgg9
 z9:=sizeOf9
 v9:=zeroValue9
 t37:=underlying105
 a37:=isAgg105
 z37:=sizeOf105
 v37:=zeroValue105
 t127:=underlying237
 a127:=isAgg237
 z127:=sizeOf237
 v127:=zeroValue237
 t5:=underlying5
 a5:=isAgg5
 z5:=sizeOf5
 v5:=zeroValue5
 i0:=aG
 i3:=aG
 i4:=aG
 i5:=aG
 i9:=aG
 i37:=aG
 i127:=lF}
open Go.RowKit in
theorem Tryz.stringslite_Clone(s:aC)(w:World)(hlim:s.size<=281474976710656) :
  Calls prog 246 #[.string s] w fun e w'=>e=.returned (.string s)/\aF w w':=Any.stringslite_Clone laysM316 s w hlim
def Tryz.laysC172_ren:Go.Shelf.Ren:=⟨fun | 172=>137 | 244=>199 | 245=>200 | 247=>253 | 279=>254 | 280=>255 | 281=>256 | 282=>257 | 287=>297 | 316=>246 | 171=>57 | 205=>298 | 321=>314 | 322=>315 | 243=>121 | 246=>180 | 283=>232 | 284=>233 | 285=>234 | 286=>235 | 129=>284 | 317=>288 | 318=>289 | 319=>290 | 320=>291 | 337=>311 | 338=>312 | n=>n,fun | 9=>9 | 3=>3 | 75=>177 | 76=>178 | 4=>4 | 5=>5 | 167=>286 | 37=>105 | 0=>0 | 85=>287 | 2=>2 | 168=>289 | 53=>150 | 175=>317 | 46=>106 | 210=>320 | 127=>237 | 145=>341 | 143=>339 | 21=>21 | 171=>270 | 173=>273 | 212=>314 | 51=>147 | 20=>20 | 213=>315 | 232=>156 | 233=>149 | 80=>180 | n=>n,fun | 15=>4 | 16=>5 | 17=>3 | 18=>8 | 19=>9 | n=>n⟩
theorem Tryz.laysC172:Go.Proofs.LaysC.n172 prog laysC172_ren:={
 mixed:=aG
 f129:=aO func284
 f171:=aO func57
 f172:=aO func137
 f205:=aO func298
 f243:=aO func121
 f244:=aO func199
 f245:=aO func200
 f246:=aO func180
 f247:=aO func253
 f279:=aO func254
 f280:=aO func255
 f281:=aO func256
 f282:=aO func257
 f283:=aO func232
 f284:=aO func233
 f285:=aO func234
 f286:=aO func235
 f287:=aO func297
 f316:=aO func246
 f317:=aO func288
 f318:=aO func289
 f319:=aO func290
 f320:=aO func291
 f321:=aO func314
 f322:=aO func315
 f337:=aO func311
 f338:=aO func312
 t0:=underlying0
 a0:=isAgg0
 z0:=sizeOf0
 v0:=zeroValue0
 t2:=underlying2
 a2:=isAgg2
 z2:=sizeOf2
 v2:=zeroValue2
 t3:=underlying3
 a3:=isAgg3
 z3:=sizeOf3
 v3:=zeroValue3
 t4:=underlying4
 a4:=isAgg4
 z4:=sizeOf4
 v4:=zeroValue4
 t5:=underlying5
 a5:=isAgg5
 z5:=sizeOf5
 v5:=zeroValue5
 t9:=underlying9
 a9:=isAgg9
 z9:=sizeOf9
 v9:=zeroValue9
 t20:=underlying20
 a20:=isAgg20
 z20:=sizeOf20
 v20:=zeroValue20
 t21:=underlying21
 a21:=isAgg21
 z21:=sizeOf21
 v21:=zeroValue21
 t37:=underlying105
 a37:=isAgg105
 z37:=sizeOf105
 v37:=zeroValue105
 t46:=underlying106
 a46:=isAgg106
 z46:=sizeOf106
 v46:=zeroValue106
 t51:=underlying147
 a51:=isAgg147
 z51:=sizeOf147
 v51:=zeroValue147
 t53:=underlying150
 a53:=isAgg150
 z53:=sizeOf150
 v53:=zeroValue150
 t75:=underlying177
 a75:=isAgg177
 z75:=sizeOf177
 v75:=zeroValue177
 t76:=underlying178
 a76:=isAgg178
 z76:=sizeOf178
 v76:=zeroValue178
 t85:=underlying287
 a85:=isAgg287
 z85:=sizeOf287
 v85:=zeroValue287
 t127:=underlying237
 a127:=isAgg237
 z127:=sizeOf237
 v127:=zeroValue237
 t143:=underlying339
 a143:=isAgg339
 z143:=sizeOf339
 v143:=zeroValue339
 t145:=underlying341
 a145:=isAgg341
 z145:=sizeOf341
 v145:=zeroValue341
 t167:=underlying286
 a167:=isAgg286
 z167:=sizeOf286
 v167:=zeroValue286
 t168:=underlying289
 a168:=isAgg289
 z168:=sizeOf289
 v168:=zeroValue289
 t171:=underlying270
 a171:=isAgg270
 z171:=sizeOf270
 v171:=zeroValue270
 t173:=underlying273
 a173:=isAgg273
 z173:=sizeOf273
 v173:=zeroValue273
 t175:=underlying317
 a175:=isAgg317
 z175:=sizeOf317
 v175:=zeroValue317
 t210:=underlying320
 a210:=isAgg320
 z210:=sizeOf320
 v210:=zeroValue320
 t212:=underlying314
 a212:=isAgg314
 z212:=sizeOf314
 v212:=zeroValue314
 t213:=underlying315
 a213:=isAgg315
 z213:=sizeOf315
 t232:=underlying156
 a232:=isAgg156
 z232:=sizeOf156
 v232:=zeroValue156
 t233:=underlying149
 a233:=isAgg149
 z233:=sizeOf149
 v233:=zeroValue149
 g15:=aG
 g16:=aG
 g17:=aG
 g18:=aG
 g19:=aG
 t80:=underlying180
 a80:=isAgg180
 z80:=sizeOf180
 v80:=zeroValue180
 i0:=aG
 i2:=aG
 i3:=aG
 i4:=aG
 i5:=aG
 i9:=aG
 i20:=aG
 i21:=aG
 i37:=aG
 i46:=aG
 i51:=aG
 i53:=aG
 i75:=aG
 i76:=aG
 i80:=aG
 i85:=aG
 i127:=aG
 i143:=aG
 i145:=aG
 i167:=aG
 i168:=aG
 i171:=aG
 i173:=aG
 i175:=aG
 i210:=aG
 i212:=aG
 i232:=aG
 i233:=aG
 m15:=aG
 m16:=aG
 m17:=aG
 m18:=aG
 m19:=aG
 c0:=aG
 c2:=aG
 c3:=aG
 c4:=aG
 c5:=aG
 c9:=aG
 c20:=aG
 c21:=aG
 c37:=aG
 c46:=aG
 c51:=aG
 c53:=aG
 c75:=aG
 c76:=aG
 c80:=aG
 c85:=aG
 c127:=aG
 c143:=aG
 c145:=aG
 c167:=aG
 c168:=aG
 c171:=aG
 c173:=aG
 c175:=aG
 c210:=aG
 c212:=aG
 c213:=aG
 c232:=aG
 c233:=lF}
open Go.RowKit in
theorem Tryz.strconv_Atoi_ok(s:aC)(hmax:s.size<=9223372036854775806)(v:Int)(h:Lib.atoiAll s.data.toList=.ok v)(w:World) :
  Calls prog 137 #[.string s] w fun e w'=>e=.returned (.tuple #[.int .i64 v,.nilIface])/\(w'=w\/∃ t,w'=Lib.bytesWorld w 5 t):=Any.strconv_Atoi_ok laysC172 s hmax v h w
open Go.RowKit in
theorem Tryz.strconv_Atoi_syntax(s:aC)(hlim:s.size<=281474976710656)(h:Lib.atoiAll s.data.toList=.«syntax»)(ev:Value)(w:World)(hv:w.cell? ⟨4,0,none⟩=some ev)(hev:ev=.nilIface\/∃ te pe,ev=.iface te pe) :
  Calls prog 137 #[.string s] w fun e w'=>∃ N,e=.returned (.tuple #[.int .i64 (0),.iface 289 (.pointer (some ⟨N,0,none⟩))])/\w.heap.size<=N/\w'.heap[N]? = some (.cells #[.string ⟨#[65,116,111,105]⟩,.string s,ev] 320 (0,0))/\aF w w':=Any.strconv_Atoi_syntax laysC172 s hlim h ev w hv hev
open Go.RowKit in
theorem Tryz.strconv_Atoi_range(s:aC)(hlim:s.size<=281474976710656)(h:Lib.atoiAll s.data.toList=.range)(ev:Value)(w:World)(hv:w.cell? ⟨5,0,none⟩=some ev)(hev:ev=.nilIface\/∃ te pe,ev=.iface te pe) :
  Calls prog 137 #[.string s] w fun e w'=>∃ N,e=.returned (.tuple #[.int .i64 (Lib.atoiSat s.data.toList),.iface 289 (.pointer (some ⟨N,0,none⟩))])/\w.heap.size<=N/\w'.heap[N]? = some (.cells #[.string ⟨#[65,116,111,105]⟩,.string s,ev] 320 (0,0))/\aF w w':=Any.strconv_Atoi_range laysC172 s hlim h ev w hv hev
def Tryz.lays143_ren:Go.Shelf.Ren:=⟨fun | 143=>198 | 219=>252 | 217=>141 | 225=>294 | 224=>295 | 267=>296 | 266=>201 | 314=>313 | n=>n,fun | 9=>9 | 3=>3 | 4=>4 | 5=>5 | 46=>106 | 146=>336 | 51=>147 | n=>n,fun | 1=>2 | n=>n⟩
theorem Tryz.lays143:Go.Proofs.Lays.n143 prog lays143_ren:={
 mixed:=aG
 f143:=aO func198
 f217:=aO func141
 f219:=aO func252
 f224:=aO func295
 f225:=aO func294
 f266:=aO func201
 f267:=aO func296
 f314:=aO func313
 t3:=underlying3
 a3:=isAgg3
 z3:=sizeOf3
 v3:=zeroValue3
 t4:=underlying4
 a4:=isAgg4
 z4:=sizeOf4
 v4:=zeroValue4
 t5:=underlying5
 a5:=isAgg5
 z5:=sizeOf5
 v5:=zeroValue5
 t9:=underlying9
 a9:=isAgg9
 z9:=sizeOf9
 v9:=zeroValue9
 t46:=underlying106
 a46:=isAgg106
 z46:=sizeOf106
 v46:=zeroValue106
 t51:=underlying147
 a51:=isAgg147
 z51:=sizeOf147
 v51:=zeroValue147
 t146:=underlying336
 a146:=isAgg336
 z146:=sizeOf336
 v146:=zeroValue336
 g1:=lF}
open Go.RowKit Go.Lib in
theorem Tryz.strings_Index_one(s:aC)(c:UInt8)(w:World) :
  Calls prog 198 #[.string s,.string ⟨#[c]⟩] w fun e w'=>e=.returned (.int .i64 (Lib.indexByte s.data.toList c))/\w'=w:=Any.strings_Index_one lays143 s c w
def Tryz.lays144_ren:Go.Shelf.Ren:=⟨fun | 144=>163 | 143=>198 | 219=>252 | 217=>141 | 225=>294 | 224=>295 | 267=>296 | 266=>201 | 314=>313 | n=>n,fun | 9=>9 | 4=>4 | 3=>3 | 5=>5 | 46=>106 | 146=>336 | 51=>147 | n=>n,fun | 1=>2 | n=>n⟩
theorem Tryz.lays144:Go.Proofs.Lays.n144 prog lays144_ren:={
 mixed:=aG
 f143:=aO func198
 f144:=aO func163
 f217:=aO func141
 f219:=aO func252
 f224:=aO func295
 f225:=aO func294
 f266:=aO func201
 f267:=aO func296
 f314:=aO func313
 t3:=underlying3
 a3:=isAgg3
 z3:=sizeOf3
 v3:=zeroValue3
 t4:=underlying4
 a4:=isAgg4
 z4:=sizeOf4
 v4:=zeroValue4
 t5:=underlying5
 a5:=isAgg5
 z5:=sizeOf5
 v5:=zeroValue5
 t9:=underlying9
 a9:=isAgg9
 z9:=sizeOf9
 v9:=zeroValue9
 t46:=underlying106
 a46:=isAgg106
 z46:=sizeOf106
 v46:=zeroValue106
 t51:=underlying147
 a51:=isAgg147
 z51:=sizeOf147
 v51:=zeroValue147
 t146:=underlying336
 a146:=isAgg336
 z146:=sizeOf336
 v146:=zeroValue336
 g1:=lF}
open Go.RowKit Go.Lib in
theorem Tryz.strings_Contains_one(s:aC)(c:UInt8)(w:World) :
  Calls prog 163 #[.string s,.string ⟨#[c]⟩] w fun e w'=>e=.returned (.bool (decide (0<=Lib.indexByte s.data.toList c)))/\w'=w:=Any.strings_Contains_one lays144 s c w
def Tryz.lays145_ren:Go.Shelf.Ren:=⟨fun | 145=>260 | 220=>299 | 219=>252 | 217=>141 | 225=>294 | 224=>295 | 267=>296 | 266=>201 | 314=>313 | n=>n,fun | 9=>9 | 4=>4 | 59=>277 | 3=>3 | 5=>5 | 46=>106 | 146=>336 | 51=>147 | n=>n,fun | 1=>2 | n=>n⟩
theorem Tryz.lays145:Go.Proofs.Lays.n145 prog lays145_ren:={
 mixed:=aG
 f145:=aO func260
 f217:=aO func141
 f219:=aO func252
 f220:=aO func299
 f224:=aO func295
 f225:=aO func294
 f266:=aO func201
 f267:=aO func296
 f314:=aO func313
 t3:=underlying3
 a3:=isAgg3
 z3:=sizeOf3
 v3:=zeroValue3
 t4:=underlying4
 a4:=isAgg4
 z4:=sizeOf4
 v4:=zeroValue4
 t5:=underlying5
 a5:=isAgg5
 z5:=sizeOf5
 v5:=zeroValue5
 t9:=underlying9
 a9:=isAgg9
 z9:=sizeOf9
 v9:=zeroValue9
 t46:=underlying106
 a46:=isAgg106
 z46:=sizeOf106
 v46:=zeroValue106
 t51:=underlying147
 a51:=isAgg147
 z51:=sizeOf147
 v51:=zeroValue147
 t59:=underlying277
 a59:=isAgg277
 z59:=sizeOf277
 v59:=zeroValue277
 t146:=underlying336
 a146:=isAgg336
 z146:=sizeOf336
 v146:=zeroValue336
 g1:=lF}
open Go.RowKit Go.Lib in
theorem Tryz.strings_Cut(s sep:aC)(m:Int)(w:World)(hs:s.size<4294967281)(hm:w.cell? ⟨2,0,none⟩=some (.int .i64 m)) :
  Calls prog 260 #[.string s,.string sep] w fun e w'=>e=.returned (.tuple #[.string ⟨(Lib.cut s.data.toList sep.data.toList).1.toArray⟩,.string ⟨(Lib.cut s.data.toList sep.data.toList).2.1.toArray⟩,.bool (Lib.cut s.data.toList sep.data.toList).2.2])/\∃ n,w'=w.drewN n:=Any.strings_Cut lays145 s sep m w hs hm
def Tryz.lays190_ren:Go.Shelf.Ren:=⟨fun | 190=>165 | 125=>224 | 258=>223 | 128=>283 | 129=>284 | 302=>274 | 303=>275 | 304=>276 | 305=>277 | 306=>278 | 307=>279 | 308=>280 | 309=>281 | 310=>282 | 333=>305 | 329=>306 | 330=>307 | 334=>308 | 335=>309 | 336=>310 | 344=>318 | n=>n,fun | 31=>24 | 9=>9 | 3=>3 | 46=>106 | 0=>0 | 51=>147 | 53=>150 | 4=>4 | 183=>304 | 182=>303 | 131=>160 | 5=>5 | 218=>326 | 222=>330 | 228=>342 | 229=>343 | n=>n,fun | n=>n⟩
theorem Tryz.lays190:Go.Proofs.Lays.n190 prog lays190_ren:={
 mixed:=aG
 f125:=aO func224
 f128:=aO func283
 f129:=aO func284
 f190:=aO func165
 f258:=aO func223
 f302:=aO func274
 f303:=aO func275
 f304:=aO func276
 f305:=aO func277
 f306:=aO func278
 f307:=aO func279
 f308:=aO func280
 f309:=aO func281
 f310:=aO func282
 f329:=aO func306
 f330:=aO func307
 f333:=aO func305
 f334:=aO func308
 f335:=aO func309
 f336:=aO func310
 f344:=aO func318
 t0:=underlying0
 a0:=isAgg0
 z0:=sizeOf0
 v0:=zeroValue0
 t3:=underlying3
 a3:=isAgg3
 z3:=sizeOf3
 v3:=zeroValue3
 t4:=underlying4
 a4:=isAgg4
 z4:=sizeOf4
 v4:=zeroValue4
 t5:=underlying5
 a5:=isAgg5
 z5:=sizeOf5
 v5:=zeroValue5
 t9:=underlying9
 a9:=isAgg9
 z9:=sizeOf9
 v9:=zeroValue9
 t31:=underlying24
 a31:=isAgg24
 z31:=sizeOf24
 v31:=zeroValue24
 t46:=underlying106
 a46:=isAgg106
 z46:=sizeOf106
 v46:=zeroValue106
 t51:=underlying147
 a51:=isAgg147
 z51:=sizeOf147
 v51:=zeroValue147
 t53:=underlying150
 a53:=isAgg150
 z53:=sizeOf150
 v53:=zeroValue150
 t131:=underlying160
 a131:=isAgg160
 z131:=sizeOf160
 v131:=zeroValue160
 t182:=underlying303
 a182:=isAgg303
 z182:=sizeOf303
 v182:=zeroValue303
 t183:=underlying304
 a183:=isAgg304
 z183:=sizeOf304
 v183:=zeroValue304
 t218:=underlying326
 a218:=isAgg326
 z218:=sizeOf326
 v218:=zeroValue326
 t222:=underlying330
 a222:=isAgg330
 z222:=sizeOf330
 v222:=zeroValue330
 t228:=underlying342
 a228:=isAgg342
 z228:=sizeOf342
 v228:=zeroValue342
 t229:=underlying343
 a229:=isAgg343
 z229:=sizeOf343
 v229:=zeroValue343 }
open Go.Sort Go.RowKit in
theorem Tryz.slices_Sort_string(blk off cap:Nat)(ss:List (List UInt8))(w:World)(hH:Holds encStr w blk off ss.toArray)(hblk:blk<w.heap.size)(hsz:ss.length<4611686018427387904) :
  Calls prog 165 #[.slice (some ⟨blk,off,none⟩) ss.length cap] w fun e w' =>
   e=.returned (.tuple #[])/\∃ n os,w'=grow (putRow encStr (Sort.ahead w n) blk off (ss.mergeSort fun x y=>decide (x<=y)).toArray) os:=Any.slices_Sort_string lays190 blk off cap ss w hH hblk hsz
def Tryz.laysGw17_ren:Go.Shelf.Ren:=⟨fun | 17=>219 | 15=>273 | 20=>304 | n=>n,fun | 9=>9 | 23=>256 | 4=>4 | 3=>3 | 0=>0 | 21=>21 | n=>n,fun | n=>n⟩
theorem Tryz.laysGw17:Go.Proofs.LaysGw.n17 prog laysGw17_ren:={
 mixed:=aG
 f15:=aO func273
 f17:=aO func219
 f20:=aO func304
 t0:=underlying0
 a0:=isAgg0
 z0:=sizeOf0
 v0:=zeroValue0
 i0:=aG
 t3:=underlying3
 a3:=isAgg3
 z3:=sizeOf3
 v3:=zeroValue3
 i3:=aG
 t4:=underlying4
 a4:=isAgg4
 z4:=sizeOf4
 v4:=zeroValue4
 i4:=aG
 t9:=underlying9
 a9:=isAgg9
 z9:=sizeOf9
 v9:=zeroValue9
 i9:=aG
 t21:=underlying21
 a21:=isAgg21
 z21:=sizeOf21
 v21:=zeroValue21
 i21:=aG
 t23:=underlying256
 a23:=isAgg256
 z23:=sizeOf256
 v23:=zeroValue256
 i23:=lF}
def Tryz.lays99_ren:Go.Shelf.Ren:=⟨fun | 99=>206 | 206=>269 | n=>n,fun | 9=>9 | 4=>4 | 3=>3 | n=>n,fun | n=>n⟩
theorem Tryz.lays99:Go.Proofs.Lays.n99 prog lays99_ren:={
 mixed:=aG
 f99:=aO func206
 f206:=aO func269
 t3:=underlying3
 a3:=isAgg3
 z3:=sizeOf3
 v3:=zeroValue3
 t4:=underlying4
 a4:=isAgg4
 z4:=sizeOf4
 v4:=zeroValue4
 t9:=underlying9
 a9:=isAgg9
 z9:=sizeOf9
 v9:=zeroValue9 }
open Go.RowKit Go.Lib in
theorem Tryz.strings_HasPrefix(s p:aC)(w:World) :
  Calls prog 206 #[.string s,.string p] w fun e w'=>e=.returned (.bool (Lib.hasPrefix s.data.toList p.data.toList))/\w'=w:=Any.strings_HasPrefix lays99 s p w
def Tryz.lays102_ren:Go.Shelf.Ren:=⟨fun | 102=>262 | 209=>300 | 207=>270 | n=>n,fun | 9=>9 | 4=>4 | 3=>3 | n=>n,fun | n=>n⟩
theorem Tryz.lays102:Go.Proofs.Lays.n102 prog lays102_ren:={
 mixed:=aG
 f102:=aO func262
 f207:=aO func270
 f209:=aO func300
 t3:=underlying3
 a3:=isAgg3
 z3:=sizeOf3
 v3:=zeroValue3
 t4:=underlying4
 a4:=isAgg4
 z4:=sizeOf4
 v4:=zeroValue4
 t9:=underlying9
 a9:=isAgg9
 z9:=sizeOf9
 v9:=zeroValue9 }
open Go.RowKit Go.Lib in
theorem Tryz.strings_TrimSuffix(s p:aC)(w:World)(hs:s.size<=9223372036854775807) :
  Calls prog 262 #[.string s,.string p] w fun e w'=>e=.returned (.string ⟨(Lib.trimSuffix s.data.toList p.data.toList).toArray⟩)/\w'=w:=Any.strings_TrimSuffix lays102 s p w hs
def Tryz.lays146_ren:Go.Shelf.Ren:=⟨fun | 146=>75 | 221=>136 | 268=>196 | 138=>197 | 143=>198 | 195=>249 | 197=>250 | 218=>251 | 219=>252 | 260=>293 | 217=>141 | 225=>294 | 224=>295 | 267=>296 | 266=>201 | 314=>313 | n=>n,fun | 9=>9 | 31=>24 | 3=>3 | 4=>4 | 0=>0 | 105=>284 | 21=>21 | 5=>5 | 46=>106 | 119=>332 | 139=>335 | 138=>334 | 146=>336 | 51=>147 | n=>n,fun | 1=>2 | 3=>6 | 4=>7 | n=>n⟩
theorem Tryz.lays146:Go.Proofs.Lays.n146 prog lays146_ren:={
 mixed:=aG
 f138:=aO func197
 f143:=aO func198
 f146:=aO func75
 f195:=aO func249
 f197:=aO func250
 f217:=aO func141
 f218:=aO func251
 f219:=aO func252
 f221:=aO func136
 f224:=aO func295
 f225:=aO func294
 f260:=aO func293
 f266:=aO func201
 f267:=aO func296
 f268:=aO func196
 f314:=aO func313
 t0:=underlying0
 a0:=isAgg0
 z0:=sizeOf0
 v0:=zeroValue0
 t3:=underlying3
 a3:=isAgg3
 z3:=sizeOf3
 v3:=zeroValue3
 t4:=underlying4
 a4:=isAgg4
 z4:=sizeOf4
 v4:=zeroValue4
 t5:=underlying5
 a5:=isAgg5
 z5:=sizeOf5
 v5:=zeroValue5
 t9:=underlying9
 a9:=isAgg9
 z9:=sizeOf9
 v9:=zeroValue9
 t21:=underlying21
 a21:=isAgg21
 z21:=sizeOf21
 v21:=zeroValue21
 t31:=underlying24
 a31:=isAgg24
 z31:=sizeOf24
 v31:=zeroValue24
 t46:=underlying106
 a46:=isAgg106
 z46:=sizeOf106
 v46:=zeroValue106
 t51:=underlying147
 a51:=isAgg147
 z51:=sizeOf147
 v51:=zeroValue147
 t105:=underlying284
 a105:=isAgg284
 z105:=sizeOf284
 v105:=zeroValue284
 t119:=underlying332
 a119:=isAgg332
 z119:=sizeOf332
 t138:=underlying334
 a138:=isAgg334
 z138:=sizeOf334
 v138:=zeroValue334
 t139:=underlying335
 a139:=isAgg335
 z139:=sizeOf335
 v139:=zeroValue335
 t146:=underlying336
 a146:=isAgg336
 z146:=sizeOf336
 v146:=zeroValue336
 g1:=aG
 g3:=aG
 g4:=lF}
open Go.RowKit Go.Lib in
theorem Tryz.strings_Split(s sep:aC)(m:Int)(w:World)(hs:s.size<4294967281)(hm:w.cell? ⟨2,0,none⟩=some (.int .i64 m))(h1:1<=sep.size) :
  Calls prog 75 #[.string s,.string sep] w fun e w' =>
   e=.returned (.slice (some ⟨w.heap.size,0,none⟩) (Lib.countB s sep+1) (Lib.countB s sep+1))/\w'=w.alloc (.cells ((Lib.splitB sep 0 (Lib.countB s sep) s).map Value.string).toArray 9):=Any.strings_Split lays146 aG s sep m w hs hm h1
open Go.RowKit Go.Lib in
theorem Tryz.strings_ContainsFunc_grows(g:Nat)(lb:Array Value)(eg:∀ args w,(callFunc g args).run prog w=.ok (.enter g args) w)(p:Nat->Bool)(s:aC)(w:World)(hp:PredGrows prog g lb p w) :
  Calls prog 219 #[.string s,.func (.func g) #[] lb] w fun e w'=>e=.returned (.bool (decide (0<=Lib.idxFunc p true s)))/\aF w w':=Any.strings_ContainsFunc_grows laysGw17 g lb eg p s w hp
def Tryz.lays107_ren:Go.Shelf.Ren:=⟨fun | 107=>151 | 108=>210 | n=>n,fun | 28=>25 | 3=>3 | 4=>4 | 0=>0 | n=>n,fun | n=>n⟩
theorem Tryz.lays107:Go.Proofs.Lays.n107 prog lays107_ren:={
 mixed:=aG
 f107:=aO func151
 f108:=aO func210
 t0:=underlying0
 a0:=isAgg0
 z0:=sizeOf0
 v0:=zeroValue0
 t3:=underlying3
 a3:=isAgg3
 z3:=sizeOf3
 v3:=zeroValue3
 t4:=underlying4
 a4:=isAgg4
 z4:=sizeOf4
 v4:=zeroValue4
 t28:=underlying25
 a28:=isAgg25
 z28:=sizeOf25
 v28:=zeroValue25 }
open Go.Lib in
theorem Tryz.slices_Contains_int(b off n c:Nat)(zs:List Int)(x:Int)(w:World)(hz:n<=zs.length)(hbig:n<=9223372036854775807)(hc:∀ j,j<zs.length->w.cell? ⟨b,off+j,none⟩=some (.int .i64 (zs.getD j 0))) :
  Calls prog 151 #[.slice (some ⟨b,off,none⟩) n c,.int .i64 x] w fun e w'=>e=.returned (.bool ((zs.take n).contains x))/\w'=w:=Any.slices_Contains_int lays107 b off n c zs x w hz hbig hc
def Tryz.lays110_ren:Go.Shelf.Ren:=⟨fun | 110=>150 | 109=>209 | n=>n,fun | 31=>24 | 9=>9 | 4=>4 | 3=>3 | 0=>0 | n=>n,fun | n=>n⟩
theorem Tryz.lays110:Go.Proofs.Lays.n110 prog lays110_ren:={
 mixed:=aG
 f109:=aO func209
 f110:=aO func150
 t0:=underlying0
 a0:=isAgg0
 z0:=sizeOf0
 v0:=zeroValue0
 t3:=underlying3
 a3:=isAgg3
 z3:=sizeOf3
 v3:=zeroValue3
 t4:=underlying4
 a4:=isAgg4
 z4:=sizeOf4
 v4:=zeroValue4
 t9:=underlying9
 a9:=isAgg9
 z9:=sizeOf9
 v9:=zeroValue9
 t31:=underlying24
 a31:=isAgg24
 z31:=sizeOf24
 v31:=zeroValue24 }
open Go.Lib in
theorem Tryz.slices_Contains_string(b off n c:Nat)(zs:List aC)(x:aC)(w:World)(hz:n<=zs.length)(hbig:n<=9223372036854775807)(hc:∀ j,j<zs.length->w.cell? ⟨b,off+j,none⟩=some (.string (zs.getD j ByteArray.empty))) :
  Calls prog 150 #[.slice (some ⟨b,off,none⟩) n c,.string x] w fun e w'=>e=.returned (.bool (Lib.containsS (zs.take n) x))/\w'=w:=Any.slices_Contains_string lays110 b off n c zs x w hz hbig hc
def Tryz.laysNm215_ren:Go.Shelf.Ren:=⟨fun | 15=>172 | n=>n,fun | 22=>25 | 3=>3 | 4=>4 | n=>n,fun | n=>n⟩
theorem Tryz.laysNm215:Go.Proofs.Lays2.n15 prog laysNm215_ren:={
 mixed:=aG
 f15:=aO func172
 t3:=underlying3
 a3:=isAgg3
 z3:=sizeOf3
 v3:=zeroValue3
 t4:=underlying4
 a4:=isAgg4
 z4:=sizeOf4
 v4:=zeroValue4
 t22:=underlying25
 a22:=isAgg25
 z22:=sizeOf25
 v22:=zeroValue25
 i3:=lF}
open Go.RowKit Go.Lib in
theorem Tryz.slices_Clone_int(b off n c:Nat)(zs:List Int)(w:World)(hz:n<=zs.length)(hbig:n*8<=140737488355328)(hc:∀ j,j<zs.length->w.cell? ⟨b,off+j,none⟩=some (.int .i64 (zs.getD j 0))) :
  Calls prog 172 #[.slice (some ⟨b,off,none⟩) n c] w fun e w'=>∃ v',e=.returned v'/\w'.ownsRow w.heap.size 3 1 v' n ((zs.take n).map (Value.int .i64))/\v' ≠ .slice none 0 0/\aF w w':=Any.slices_Clone_int laysNm215 b off n c zs w hz hbig hc
open Go.RowKit Go.Lib in
theorem Tryz.slices_Clone_int_nil(n c:Nat)(w:World) :
  Calls prog 172 #[.slice none n c] w fun e w'=>e=.returned (.slice none 0 0)/\w'=w:=Any.slices_Clone_int_nil laysNm215 n c w
def Tryz.laysNm216_ren:Go.Shelf.Ren:=⟨fun | 16=>169 | n=>n,fun | 24=>24 | 9=>9 | 4=>4 | n=>n,fun | n=>n⟩
theorem Tryz.laysNm216:Go.Proofs.Lays2.n16 prog laysNm216_ren:={
 mixed:=aG
 f16:=aO func169
 t4:=underlying4
 a4:=isAgg4
 z4:=sizeOf4
 v4:=zeroValue4
 t9:=underlying9
 a9:=isAgg9
 z9:=sizeOf9
 v9:=zeroValue9
 t24:=underlying24
 a24:=isAgg24
 z24:=sizeOf24
 v24:=zeroValue24
 i9:=lF}
open Go.RowKit Go.Lib in
theorem Tryz.slices_Clone_string(b off n c:Nat)(zs:List aC)(w:World)(hz:n<=zs.length)(hbig:n*16<=140737488355328)(hc:∀ j,j<zs.length->w.cell? ⟨b,off+j,none⟩=some (.string (zs.getD j ByteArray.empty))) :
  Calls prog 169 #[.slice (some ⟨b,off,none⟩) n c] w fun e w'=>∃ v',e=.returned v'/\w'.ownsRow w.heap.size 9 1 v' n ((zs.take n).map (Value.string))/\v' ≠ .slice none 0 0/\aF w w':=Any.slices_Clone_string laysNm216 b off n c zs w hz hbig hc
open Go.RowKit Go.Lib in
theorem Tryz.slices_Clone_string_nil(n c:Nat)(w:World) :
  Calls prog 169 #[.slice none n c] w fun e w'=>e=.returned (.slice none 0 0)/\w'=w:=Any.slices_Clone_string_nil laysNm216 n c w
open Go.RowKit Go.Lib in
theorem Tryz.slices_Clone_int_zero(a:Addr)(c:Nat)(w:World) :
  Calls prog 172 #[.slice (some a) 0 c] w fun e w'=>∃ v',e=.returned v'/\w'.ownsRow w.heap.size 3 1 v' 0 []/\v' ≠ .slice none 0 0/\aF w w':=Any.slices_Clone_int_zero laysNm215 a c w
open Go.RowKit Go.Lib in
theorem Tryz.slices_Clone_string_zero(a:Addr)(c:Nat)(w:World) :
  Calls prog 169 #[.slice (some a) 0 c] w fun e w'=>∃ v',e=.returned v'/\w'.ownsRow w.heap.size 9 1 v' 0 []/\v' ≠ .slice none 0 0/\aF w w':=Any.slices_Clone_string_zero laysNm216 a c w
def Tryz.lays194_ren:Go.Shelf.Ren:=⟨fun | 194=>95 | n=>n,fun | 31=>24 | 9=>9 | 3=>3 | 4=>4 | 0=>0 | n=>n,fun | n=>n⟩
theorem Tryz.lays194:Go.Proofs.Lays.n194 prog lays194_ren:={
 mixed:=aG
 f194:=aO func95
 t0:=underlying0
 a0:=isAgg0
 z0:=sizeOf0
 v0:=zeroValue0
 t3:=underlying3
 a3:=isAgg3
 z3:=sizeOf3
 v3:=zeroValue3
 t4:=underlying4
 a4:=isAgg4
 z4:=sizeOf4
 v4:=zeroValue4
 t9:=underlying9
 a9:=isAgg9
 z9:=sizeOf9
 v9:=zeroValue9
 t31:=underlying24
 a31:=isAgg24
 z31:=sizeOf24
 v31:=zeroValue24 }
open Go.RowKit Go.Lib Go.Sort in
theorem Tryz.slices_Compact_string(blk off cap:Nat)(zs:List (List UInt8))(w:World)(hH:Holds encStr w blk off zs.toArray)(hsz:zs.length<=9223372036854775807)(hcap:zs.length<=cap) :
  Calls prog 95 #[.slice (some ⟨blk,off,none⟩) zs.length cap] w fun e w'=>e=.returned (.slice (some ⟨blk,off,none⟩) (Lib.compact zs).length cap)/\∃ q,w'=putRow encStr (Sort.ahead w q) blk off (Lib.compact zs++List.replicate (zs.length-(Lib.compact zs).length) []).toArray:=Any.slices_Compact_string lays194 blk off cap zs w hH hsz hcap
open Go.RowKit Go.Lib Go.Sort in
theorem Tryz.slices_Compact_string_empty(a:Option Addr)(cap:Nat)(w:World) :
  Calls prog 95 #[.slice a 0 cap] w fun e w'=>e=.returned (.slice a 0 cap)/\w'=w:=Any.slices_Compact_string_empty lays194 a cap w
open Go.RowKit Go.Sort in
theorem Tryz.slices_Sort_string_none(p:Option Addr)(cap:Nat)(w:World) :
  Calls prog 165 #[.slice p 0 cap] w fun e w'=>e=.returned (.tuple #[])/\w'=w:=Any.slices_Sort_string_none lays190 p cap w
def Tryz.laysSlH6_f161_ren:Go.Shelf.Ren:=⟨fun | 6=>161 | n=>n,fun | 22=>24 | 23=>9 | 25=>86 | 3=>3 | 0=>0 | 4=>4 | n=>n,fun | n=>n⟩
theorem Tryz.laysSlH6_f161:Go.Proofs.SlLaysH.n6 prog laysSlH6_f161_ren:={
 mixed:=aG
 f6:=⟨f161.name,aK,aO func161⟩
 t0:=underlying0
 a0:=isAgg0
 z0:=sizeOf0
 v0:=zeroValue0
 t3:=underlying3
 a3:=isAgg3
 z3:=sizeOf3
 v3:=zeroValue3
 t4:=underlying4
 a4:=isAgg4
 z4:=sizeOf4
 v4:=zeroValue4
 t22:=underlying24
 a22:=isAgg24
 z22:=sizeOf24
 v22:=zeroValue24
 a23:=isAgg9
 z23:=sizeOf9
 t25:=underlying86
 a25:=isAgg86
 z25:=sizeOf86
 v25:=zeroValue86 }
def Tryz.laysSlH6_f225_ren:Go.Shelf.Ren:=⟨fun | 6=>225 | n=>n,fun | 22=>25 | 23=>3 | 25=>84 | 3=>3 | 0=>0 | 4=>4 | n=>n,fun | n=>n⟩
theorem Tryz.laysSlH6_f225:Go.Proofs.SlLaysH.n6 prog laysSlH6_f225_ren:={
 mixed:=aG
 f6:=⟨Tryz.f225.name,aK,aO func225⟩
 t0:=underlying0
 a0:=isAgg0
 z0:=sizeOf0
 v0:=zeroValue0
 t3:=underlying3
 a3:=isAgg3
 z3:=sizeOf3
 v3:=zeroValue3
 t4:=underlying4
 a4:=isAgg4
 z4:=sizeOf4
 v4:=zeroValue4
 t22:=underlying25
 a22:=isAgg25
 z22:=sizeOf25
 v22:=zeroValue25
 a23:=isAgg3
 z23:=sizeOf3
 t25:=underlying84
 a25:=isAgg84
 z25:=sizeOf84
 v25:=zeroValue84 }
open Go.RowKit Go.Lib in
theorem Tryz.slices_IndexFunc_empty_f161{α:Type} [Inhabited α] (a:Option Addr) (c:Nat) (fv:Value) (w:World) :
  Calls prog 161 #[.slice a 0 c,fv] w fun e w'=>e=.returned (.int .i64 (-1))/\w'=w:=AnyE.slices_IndexFunc_empty laysSlH6_f161 a c fv w
open Go.RowKit Go.Lib in
theorem Tryz.slices_IndexFunc_empty_f225{α:Type} [Inhabited α] (a:Option Addr) (c:Nat) (fv:Value) (w:World) :
  Calls prog 225 #[.slice a 0 c,fv] w fun e w'=>e=.returned (.int .i64 (-1))/\w'=w:=AnyE.slices_IndexFunc_empty laysSlH6_f225 a c fv w
def Tryz.laysSlH10_f168_ren:Go.Shelf.Ren:=⟨fun | 10=>168 | 6=>161 | n=>n,fun | 22=>24 | 23=>9 | 25=>86 | 3=>3 | 4=>4 | 0=>0 | n=>n,fun | n=>n⟩
theorem Tryz.laysSlH10_f168:Go.Proofs.SlLaysH.n10 prog laysSlH10_f168_ren:={
 mixed:=aG
 f6:=⟨f161.name,aK,aO func161⟩
 f10:=⟨f168.name,aK,aO func168⟩
 t0:=underlying0
 a0:=isAgg0
 z0:=sizeOf0
 v0:=zeroValue0
 t3:=underlying3
 a3:=isAgg3
 z3:=sizeOf3
 v3:=zeroValue3
 t4:=underlying4
 a4:=isAgg4
 z4:=sizeOf4
 v4:=zeroValue4
 t22:=underlying24
 a22:=isAgg24
 z22:=sizeOf24
 v22:=zeroValue24
 a23:=isAgg9
 z23:=sizeOf9
 t25:=underlying86
 a25:=isAgg86
 z25:=sizeOf86
 v25:=zeroValue86 }
open Go.RowKit Go.Lib Go.Sort in
theorem Tryz.slices_DeleteFunc_f168{α:Type} [Inhabited α] (enc:α->Value) (hO:OneCell enc) (p:α->Bool) (g:Nat) (lb:Array Value) (eg:∀ args w,(callFunc g args).run prog w=.ok (.enter g args) w) (zr:α) (v23:∀ w,(zeroValue 9).run prog w=.ok (enc zr) w) (blk off cap:Nat) (d:Array α) (w:World) (hp:PredAt prog g lb enc p w) (hpo:PredOver prog g lb enc p blk off d.size w) (hH:Holds enc w blk off d) (hsz:d.size<=9223372036854775807) (hcap:d.size<=cap) :
  Calls prog 168 #[.slice (some ⟨blk,off,none⟩) d.size cap,.func (.func g) #[] lb] w fun e w'=>e=.returned (.slice (some ⟨blk,off,none⟩) (d.toList.filter fun x=>!p x).length cap)/\∃ q,w'=putRow enc (Sort.ahead w q) blk off ((d.toList.filter fun x=>!p x)++List.replicate (d.size-(d.toList.filter fun x=>!p x).length) zr).toArray:=AnyE.slices_DeleteFunc laysSlH10_f168 enc hO p g lb eg zr v23 blk off cap d w hp hpo hH hsz hcap
def Tryz.laysSlH10_f171_ren:Go.Shelf.Ren:=⟨fun | 10=>171 | 6=>225 | n=>n,fun | 22=>25 | 23=>3 | 25=>84 | 3=>3 | 4=>4 | 0=>0 | n=>n,fun | n=>n⟩
theorem Tryz.laysSlH10_f171:Go.Proofs.SlLaysH.n10 prog laysSlH10_f171_ren:={
 mixed:=aG
 f6:=⟨Tryz.f225.name,aK,aO func225⟩
 f10:=⟨Tryz.f171.name,aK,aO func171⟩
 t0:=underlying0
 a0:=isAgg0
 z0:=sizeOf0
 v0:=zeroValue0
 t3:=underlying3
 a3:=isAgg3
 z3:=sizeOf3
 v3:=zeroValue3
 t4:=underlying4
 a4:=isAgg4
 z4:=sizeOf4
 v4:=zeroValue4
 t22:=underlying25
 a22:=isAgg25
 z22:=sizeOf25
 v22:=zeroValue25
 a23:=isAgg3
 z23:=sizeOf3
 t25:=underlying84
 a25:=isAgg84
 z25:=sizeOf84
 v25:=zeroValue84 }
open Go.RowKit Go.Lib Go.Sort in
theorem Tryz.slices_DeleteFunc_f171{α:Type} [Inhabited α] (enc:α->Value) (hO:OneCell enc) (p:α->Bool) (g:Nat) (lb:Array Value) (eg:∀ args w,(callFunc g args).run prog w=.ok (.enter g args) w) (zr:α) (v23:∀ w,(zeroValue 3).run prog w=.ok (enc zr) w) (blk off cap:Nat) (d:Array α) (w:World) (hp:PredAt prog g lb enc p w) (hpo:PredOver prog g lb enc p blk off d.size w) (hH:Holds enc w blk off d) (hsz:d.size<=9223372036854775807) (hcap:d.size<=cap) :
  Calls prog 171 #[.slice (some ⟨blk,off,none⟩) d.size cap,.func (.func g) #[] lb] w fun e w'=>e=.returned (.slice (some ⟨blk,off,none⟩) (d.toList.filter fun x=>!p x).length cap)/\∃ q,w'=putRow enc (Sort.ahead w q) blk off ((d.toList.filter fun x=>!p x)++List.replicate (d.size-(d.toList.filter fun x=>!p x).length) zr).toArray:=AnyE.slices_DeleteFunc laysSlH10_f171 enc hO p g lb eg zr v23 blk off cap d w hp hpo hH hsz hcap
end Go.Proofs
