/-
Facts of the program, printed by a program of mine: types.
No conditions.
-/
import Derived.Test.YtgglehcchdkbdaaGreatQEngS
import Derived.Test.YtgglehcchdkbdaaGreatProg
import Derived.KernelRfl
set_option linter.unusedSectionVars false
set_option linter.unusedSimpArgs false
set_option linter.unusedVariables false
namespace Go.Proofs.YtgglehcchdkbdaaGreat
open Go Go.Eng
set_option maxRecDepth 20000
theorem mixed:Tryz.prog.follows .mixedOrders=true:=by kernel_rfl
def pl0 (_:Nat):Plan:=.done
def tb0 (_:Nat):List Row:=[]
def pu:Pu:=[(13,0),(34,0),(49,0),(7,0),(96,0),(170,0),(94,0),(93,0),(48,0),(45,0),(122,0),(197,0),(23,0),(32,0),(228,0),(168,0),(174,0),(263,0),(231,0),(232,0),(265,0),(173,0),(229,0),(264,0),(230,0),(226,0),(171,0),(169,0),(55,0),(172,0),(224,0),(97,0),(95,0),(11,0),(225,0),(88,0),(165,0),(166,0),(227,0),(233,0),(116,0),(118,0),(117,0),(119,0),(50,0),(52,0),(53,0),(54,0),(56,0),(123,0),(192,0),(108,0),(85,0),(71,0),(86,0),(73,0),(249,0),(271,0),(287,0),(290,0),(283,0),(288,0),(296,0),(299,0),(298,0),(280,0),(272,0),(291,0),(293,0),(322,0),(274,0),(275,0),(292,0),(326,0),(253,0),(273,0),(325,0),(155,0),(83,0),(162,0),(163,0),(147,0),(209,0),(289,0),(25,2),(131,2),(132,2),(133,2),(134,2),(213,2),(210,2),(198,2),(216,2),(29,2),(74,2),(318,2),(35,2),(115,2),(177,2),(180,2),(135,2),(92,2),(72,2),(121,2),(315,2),(57,2),(27,2),(60,2),(63,2),(110,2),(62,2),(124,2),(130,2),(193,2),(191,2),(109,2),(151,2),(26,2),(69,2),(176,2),(179,2),(76,2),(9,2),(24,2),(82,2),(235,2),(149,2),(317,2),(199,2),(125,2),(200,2),(319,2),(129,2),(188,2),(128,2),(202,2),(185,2),(251,2),(205,2),(250,2),(294,2),(137,2),(196,2),(91,2),(167,2),(138,2)]
def Ent [Toks] (f:Nat) (F:Func) (pl:Nat→Plan) (rs:List ResultVar) (n:Nat):Prop:=
  ∀{c:Code} {args:List HV} {PS:PL} {K:HV→PL→Prop},F.body=some c→hvc (hop Tryz.prog) (drawBy Tryz.prog pu pl) c (hret Tryz.prog rs K) (hframe n args) PS→HCall Tryz.prog f args PS K
theorem ent [Toks] {f:Nat} {F:Func} (tb:Nat→List Row) {pl:Nat→Plan} {rs:List ResultVar} {n:Nat} (hf:Tryz.prog.funcs[f]? =some F) (hr:F.results=rs.toArray) (hn:F.ntmps=n) (hp:(match F.body with | some c=>plansOk pu tb pl c | none=>true)=true):Ent f F pl rs n:=by
  intro c args PS K hc h
  rw[hc] at hp
  refine hcall_of_plans tb pl pu mixed hf hc hp ?_
  rw[hr,hn]
  exact h
@[go_sem ↓,go_sem] theorem pu_32:List.lookup 32 pu=some 0:=id (by kernel_rfl)
@[go_sem ↓,go_sem] theorem pu_228:List.lookup 228 pu=some 0:=id (by kernel_rfl)
@[go_sem ↓,go_sem] theorem pu_229:List.lookup 229 pu=some 0:=id (by kernel_rfl)
@[go_sem ↓,go_sem] theorem pu_263:List.lookup 263 pu=some 0:=id (by kernel_rfl)
@[go_sem ↓,go_sem] theorem pu_264:List.lookup 264 pu=some 0:=id (by kernel_rfl)
@[go_sem ↓,go_sem] theorem pu_280:List.lookup 280 pu=some 0:=id (by kernel_rfl)
@[go_sem ↓,go_sem] theorem pu_283:List.lookup 283 pu=some 0:=id (by kernel_rfl)
@[go_sem ↓,go_sem] theorem pu_287:List.lookup 287 pu=some 0:=id (by kernel_rfl)
@[go_sem ↓,go_sem] theorem pu_288:List.lookup 288 pu=some 0:=id (by kernel_rfl)
@[go_sem ↓,go_sem] theorem pu_289:List.lookup 289 pu=some 0:=id (by kernel_rfl)
@[go_sem ↓,go_sem] theorem pu_290:List.lookup 290 pu=some 0:=id (by kernel_rfl)
@[go_sem ↓,go_sem] theorem pu_294:List.lookup 294 pu=some 2:=id (by kernel_rfl)
@[go_sem] theorem tsz_3:tsz Tryz.prog 3=some (false,1):=id (by kernel_rfl)
attribute [go_sem] Tryz.underlying3
@[go_sem] theorem tsz_4:tsz Tryz.prog 4=some (false,1):=id (by kernel_rfl)
attribute [go_sem] Tryz.underlying4
@[go_sem] theorem tsz_5:tsz Tryz.prog 5=some (false,1):=id (by kernel_rfl)
attribute [go_sem] Tryz.underlying5
attribute [go_sem] Tryz.underlying9
@[go_sem] theorem tsz_22:tsz Tryz.prog 22=some (false,1):=id (by kernel_rfl)
@[go_sem] theorem slOf_22:slOf Tryz.prog 22=some (3,1):=id (by kernel_rfl)
@[go_sem] theorem mkOf_22:mkOf Tryz.prog 22=some (1,8,[.int .i64 0]):=id (by kernel_rfl)
attribute [go_sem] Tryz.underlying22
attribute [go_sem] Tryz.underlying23
attribute [go_sem] Tryz.underlying24
@[go_sem] theorem slOf_29:slOf Tryz.prog 29=none:=id (by kernel_rfl)
@[go_sem] theorem arOf_29:arOf Tryz.prog 29=some (8,5,1):=id (by kernel_rfl)
attribute [go_sem] Tryz.underlying29
@[go_sem] theorem eqO_31:eqO Tryz.prog 31=some [(0,1),(1,1),(2,1),(3,1),(4,1),(5,1),(6,1),(7,1),(8,1)]:=id (by kernel_rfl)
@[go_sem] theorem tsz_31:tsz Tryz.prog 31=some (true,9):=id (by kernel_rfl)
@[go_sem] theorem zcells_31:zcells Tryz.prog 31=some ([.int .i64 0]++List.replicate 8 (.int .u8 0)):=id (by kernel_rfl)
@[go_sem] theorem bknown_31:bknown Tryz.prog 31=true:=id (by kernel_rfl)
@[go_sem] theorem fldOf_31_0:fldOf Tryz.prog 31 0=some (0,1):=id (by kernel_rfl)
@[go_sem] theorem bplace_31_0:bplace Tryz.prog 31 0=some (0,1):=id (by kernel_rfl)
@[go_sem] theorem fldOf_31_1:fldOf Tryz.prog 31 1=some (1,8):=id (by kernel_rfl)
attribute [go_sem] Tryz.underlying31
@[go_sem] theorem tsz_34:tsz Tryz.prog 34=some (false,1):=id (by kernel_rfl)
@[go_sem] theorem slOf_34:slOf Tryz.prog 34=some (165,26):=id (by kernel_rfl)
@[go_sem] theorem mkOf_34:mkOf Tryz.prog 34=some (26,40,[.int .i64 0]++List.replicate 8 (.int .u8 0)++[.int .i64 0]++List.replicate 16 (.int .u8 0)):=id (by kernel_rfl)
attribute [go_sem] Tryz.underlying34
@[go_sem] theorem tsz_35:tsz Tryz.prog 35=some (false,1):=id (by kernel_rfl)
@[go_sem] theorem slOf_35:slOf Tryz.prog 35=some (31,9):=id (by kernel_rfl)
@[go_sem] theorem mkOf_35:mkOf Tryz.prog 35=some (9,16,[.int .i64 0]++List.replicate 8 (.int .u8 0)):=id (by kernel_rfl)
attribute [go_sem] Tryz.underlying35
@[go_sem] theorem tsz_36:tsz Tryz.prog 36=some (false,1):=id (by kernel_rfl)
@[go_sem] theorem slOf_36:slOf Tryz.prog 36=some (170,29):=id (by kernel_rfl)
@[go_sem] theorem mkOf_36:mkOf Tryz.prog 36=some (29,64,[.int .i64 0]++[.int .u64 0]++[.int .i64 0]++List.replicate 8 (.int .u8 0)++[.int .i64 0]++List.replicate 16 (.int .u8 0)++[.int .u64 0]):=id (by kernel_rfl)
attribute [go_sem] Tryz.underlying36
@[go_sem] theorem tsz_38:tsz Tryz.prog 38=some (true,5):=id (by kernel_rfl)
@[go_sem] theorem fldOf_38_0:fldOf Tryz.prog 38 0=some (0,1):=id (by kernel_rfl)
@[go_sem] theorem fldOf_38_1:fldOf Tryz.prog 38 1=some (1,1):=id (by kernel_rfl)
@[go_sem] theorem fldOf_38_2:fldOf Tryz.prog 38 2=some (2,1):=id (by kernel_rfl)
@[go_sem] theorem fldOf_38_3:fldOf Tryz.prog 38 3=some (3,1):=id (by kernel_rfl)
@[go_sem] theorem fldOf_38_4:fldOf Tryz.prog 38 4=some (4,1):=id (by kernel_rfl)
attribute [go_sem] Tryz.underlying38
attribute [go_sem] Tryz.underlying46
@[go_sem] theorem slOf_55:slOf Tryz.prog 55=some (5,1):=id (by kernel_rfl)
@[go_sem] theorem mkOf_55:mkOf Tryz.prog 55=some (1,1,[.int .u8 0]):=id (by kernel_rfl)
attribute [go_sem] Tryz.underlying55
attribute [go_sem] Tryz.underlying59
attribute [go_sem] Tryz.underlying60
attribute [go_sem] Tryz.underlying61
attribute [go_sem] Tryz.underlying62
attribute [go_sem] Tryz.underlying64
attribute [go_sem] Tryz.underlying65
attribute [go_sem] Tryz.underlying67
attribute [go_sem] Tryz.underlying80
attribute [go_sem] Tryz.underlying85
attribute [go_sem] Tryz.underlying88
attribute [go_sem] Tryz.underlying91
attribute [go_sem] Tryz.underlying93
attribute [go_sem] Tryz.underlying99
attribute [go_sem] Tryz.underlying110
attribute [go_sem] Tryz.underlying114
attribute [go_sem] Tryz.underlying115
attribute [go_sem] Tryz.underlying116
attribute [go_sem] Tryz.underlying118
attribute [go_sem] Tryz.underlying122
attribute [go_sem] Tryz.underlying126
attribute [go_sem] Tryz.underlying132
attribute [go_sem] Tryz.underlying140
attribute [go_sem] Tryz.underlying141
attribute [go_sem] Tryz.underlying143
attribute [go_sem] Tryz.underlying144
attribute [go_sem] Tryz.underlying145
attribute [go_sem] Tryz.underlying146
attribute [go_sem] Tryz.underlying148
attribute [go_sem] Tryz.underlying150
@[go_sem] theorem mkOf_151:mkOf Tryz.prog 151=some (2,16,[.int .i64 0,.bool false]):=id (by kernel_rfl)
attribute [go_sem] Tryz.underlying151
attribute [go_sem] Tryz.underlying153
attribute [go_sem] Tryz.underlying155
attribute [go_sem] Tryz.underlying158
attribute [go_sem] Tryz.underlying160
@[go_sem] theorem slOf_161:slOf Tryz.prog 161=none:=id (by kernel_rfl)
@[go_sem] theorem arOf_161:arOf Tryz.prog 161=some (16,5,1):=id (by kernel_rfl)
attribute [go_sem] Tryz.underlying161
@[go_sem] theorem eqO_163:eqO Tryz.prog 163=some [(0,1),(1,1),(2,1),(3,1),(4,1),(5,1),(6,1),(7,1),(8,1),(9,1),(10,1),(11,1),(12,1),(13,1),(14,1),(15,1),(16,1)]:=id (by kernel_rfl)
@[go_sem] theorem tsz_163:tsz Tryz.prog 163=some (true,17):=id (by kernel_rfl)
@[go_sem] theorem zcells_163:zcells Tryz.prog 163=some ([.int .i64 0]++List.replicate 16 (.int .u8 0)):=id (by kernel_rfl)
@[go_sem] theorem bknown_163:bknown Tryz.prog 163=true:=id (by kernel_rfl)
@[go_sem] theorem fldOf_163_0:fldOf Tryz.prog 163 0=some (0,1):=id (by kernel_rfl)
@[go_sem] theorem bplace_163_0:bplace Tryz.prog 163 0=some (0,1):=id (by kernel_rfl)
@[go_sem] theorem fldOf_163_1:fldOf Tryz.prog 163 1=some (1,16):=id (by kernel_rfl)
attribute [go_sem] Tryz.underlying163
@[go_sem] theorem tsz_165:tsz Tryz.prog 165=some (true,26):=id (by kernel_rfl)
@[go_sem] theorem zcells_165:zcells Tryz.prog 165=some ([.int .i64 0]++List.replicate 8 (.int .u8 0)++[.int .i64 0]++List.replicate 16 (.int .u8 0)):=id (by kernel_rfl)
@[go_sem] theorem bknown_165:bknown Tryz.prog 165=true:=id (by kernel_rfl)
@[go_sem] theorem fldOf_165_0:fldOf Tryz.prog 165 0=some (0,9):=id (by kernel_rfl)
@[go_sem] theorem bplace_165_0:bplace Tryz.prog 165 0=some (0,9):=id (by kernel_rfl)
@[go_sem] theorem fldOf_165_1:fldOf Tryz.prog 165 1=some (9,17):=id (by kernel_rfl)
@[go_sem] theorem bplace_165_1:bplace Tryz.prog 165 1=some (9,17):=id (by kernel_rfl)
attribute [go_sem] Tryz.underlying165
@[go_sem] theorem tsz_168:tsz Tryz.prog 168=some (false,1):=id (by kernel_rfl)
attribute [go_sem] Tryz.underlying168
@[go_sem] theorem tsz_170:tsz Tryz.prog 170=some (true,29):=id (by kernel_rfl)
@[go_sem] theorem zcells_170:zcells Tryz.prog 170=some ([.int .i64 0]++[.int .u64 0]++[.int .i64 0]++List.replicate 8 (.int .u8 0)++[.int .i64 0]++List.replicate 16 (.int .u8 0)++[.int .u64 0]):=id (by kernel_rfl)
@[go_sem] theorem bknown_170:bknown Tryz.prog 170=true:=id (by kernel_rfl)
@[go_sem] theorem fldOf_170_0:fldOf Tryz.prog 170 0=some (0,1):=id (by kernel_rfl)
@[go_sem] theorem bplace_170_0:bplace Tryz.prog 170 0=some (0,1):=id (by kernel_rfl)
@[go_sem] theorem fldOf_170_1:fldOf Tryz.prog 170 1=some (1,1):=id (by kernel_rfl)
@[go_sem] theorem bplace_170_1:bplace Tryz.prog 170 1=some (1,1):=id (by kernel_rfl)
@[go_sem] theorem fldOf_170_2:fldOf Tryz.prog 170 2=some (2,9):=id (by kernel_rfl)
@[go_sem] theorem bplace_170_2:bplace Tryz.prog 170 2=some (2,9):=id (by kernel_rfl)
@[go_sem] theorem fldOf_170_3:fldOf Tryz.prog 170 3=some (11,17):=id (by kernel_rfl)
@[go_sem] theorem bplace_170_3:bplace Tryz.prog 170 3=some (11,17):=id (by kernel_rfl)
@[go_sem] theorem fldOf_170_4:fldOf Tryz.prog 170 4=some (28,1):=id (by kernel_rfl)
attribute [go_sem] Tryz.underlying170
@[go_sem] theorem tsz_171:tsz Tryz.prog 171=some (false,1):=id (by kernel_rfl)
attribute [go_sem] Tryz.underlying171
attribute [go_sem] Tryz.underlying174
attribute [go_sem] Tryz.underlying182
attribute [go_sem] Tryz.underlying183
attribute [go_sem] Tryz.underlying190
attribute [go_sem] Tryz.underlying196
attribute [go_sem] Tryz.underlying201
attribute [go_sem] Tryz.underlying203
attribute [go_sem] Tryz.underlying205
attribute [go_sem] Tryz.underlying208
attribute [go_sem] Tryz.underlying210
attribute [go_sem] Tryz.underlying215
@[go_sem] theorem fldOf_227_1:fldOf Tryz.prog 227 1=some (1,1):=id (by kernel_rfl)
@[go_sem] theorem fldOf_227_2:fldOf Tryz.prog 227 2=some (2,1):=id (by kernel_rfl)
@[go_sem] theorem fldOf_227_3:fldOf Tryz.prog 227 3=some (3,1):=id (by kernel_rfl)
@[go_sem] theorem fldOf_227_4:fldOf Tryz.prog 227 4=some (4,1):=id (by kernel_rfl)
attribute [go_sem] Tryz.underlying227
@[go_sem] theorem tsz_228:tsz Tryz.prog 228=some (true,5):=id (by kernel_rfl)
@[go_sem] theorem zcells_228:zcells Tryz.prog 228=some ([.bool false,.imm true [],.imm true [],.imm true [],.imm true []]):=id (by kernel_rfl)
@[go_sem] theorem fldOf_228_1:fldOf Tryz.prog 228 1=some (1,1):=id (by kernel_rfl)
@[go_sem] theorem fldOf_228_2:fldOf Tryz.prog 228 2=some (2,1):=id (by kernel_rfl)
@[go_sem] theorem fldOf_228_3:fldOf Tryz.prog 228 3=some (3,1):=id (by kernel_rfl)
@[go_sem] theorem fldOf_228_4:fldOf Tryz.prog 228 4=some (4,1):=id (by kernel_rfl)
attribute [go_sem] Tryz.underlying228
attribute [go_sem] Tryz.underlying230
attribute [go_sem] Tryz.underlying265
attribute [go_sem] Tryz.underlying268
attribute [go_sem] Tryz.underlying270
attribute [go_sem] Tryz.underlying282
attribute [go_sem] Tryz.underlying287
attribute [go_sem] Tryz.underlying289
attribute [go_sem] Tryz.underlying299
@[go_sem] theorem tsz_307:tsz Tryz.prog 307=some (true,256):=id (by kernel_rfl)
@[go_sem] theorem slOf_307:slOf Tryz.prog 307=none:=id (by kernel_rfl)
@[go_sem] theorem arOf_307:arOf Tryz.prog 307=some (256,171,1):=id (by kernel_rfl)
@[go_sem] theorem zcells_307:zcells Tryz.prog 307=some (List.replicate 256 (.int .u32 0)):=id (by kernel_rfl)
attribute [go_sem] Tryz.underlying307
attribute [go_sem] Tryz.underlying310
attribute [go_sem] Tryz.underlying311
attribute [go_sem] Tryz.underlying320
@[go_sem] theorem callable_7:callable Tryz.prog 7=true:=id (by kernel_rfl)
@[go_sem] theorem callable_11:callable Tryz.prog 11=true:=id (by kernel_rfl)
@[go_sem] theorem callable_13:callable Tryz.prog 13=true:=id (by kernel_rfl)
@[go_sem] theorem callable_23:callable Tryz.prog 23=true:=id (by kernel_rfl)
@[go_sem] theorem callable_25:callable Tryz.prog 25=true:=id (by kernel_rfl)
@[go_sem] theorem callable_32:callable Tryz.prog 32=true:=id (by kernel_rfl)
@[go_sem] theorem callable_90:callable Tryz.prog 90=true:=id (by kernel_rfl)
@[go_sem] theorem callable_95:callable Tryz.prog 95=true:=id (by kernel_rfl)
@[go_sem] theorem callable_96:callable Tryz.prog 96=true:=id (by kernel_rfl)
@[go_sem] theorem callable_97:callable Tryz.prog 97=true:=id (by kernel_rfl)
@[go_sem] theorem callable_155:callable Tryz.prog 155=true:=id (by kernel_rfl)
@[go_sem] theorem callable_161:callable Tryz.prog 161=true:=id (by kernel_rfl)
@[go_sem] theorem callable_162:callable Tryz.prog 162=true:=id (by kernel_rfl)
@[go_sem] theorem callable_163:callable Tryz.prog 163=true:=id (by kernel_rfl)
@[go_sem] theorem callable_165:callable Tryz.prog 165=true:=id (by kernel_rfl)
@[go_sem] theorem callable_166:callable Tryz.prog 166=true:=id (by kernel_rfl)
@[go_sem] theorem callable_168:callable Tryz.prog 168=true:=id (by kernel_rfl)
@[go_sem] theorem callable_169:callable Tryz.prog 169=true:=id (by kernel_rfl)
@[go_sem] theorem callable_170:callable Tryz.prog 170=true:=id (by kernel_rfl)
@[go_sem] theorem callable_171:callable Tryz.prog 171=true:=id (by kernel_rfl)
@[go_sem] theorem callable_172:callable Tryz.prog 172=true:=id (by kernel_rfl)
@[go_sem] theorem callable_173:callable Tryz.prog 173=true:=id (by kernel_rfl)
@[go_sem] theorem callable_174:callable Tryz.prog 174=true:=id (by kernel_rfl)
@[go_sem] theorem callable_196:callable Tryz.prog 196=true:=id (by kernel_rfl)
@[go_sem] theorem callable_214:callable Tryz.prog 214=true:=id (by kernel_rfl)
@[go_sem] theorem callable_216:callable Tryz.prog 216=true:=id (by kernel_rfl)
@[go_sem] theorem callable_224:callable Tryz.prog 224=true:=id (by kernel_rfl)
@[go_sem] theorem callable_225:callable Tryz.prog 225=true:=id (by kernel_rfl)
@[go_sem] theorem callable_226:callable Tryz.prog 226=true:=id (by kernel_rfl)
@[go_sem] theorem callable_228:callable Tryz.prog 228=true:=id (by kernel_rfl)
@[go_sem] theorem callable_229:callable Tryz.prog 229=true:=id (by kernel_rfl)
@[go_sem] theorem callable_230:callable Tryz.prog 230=true:=id (by kernel_rfl)
@[go_sem] theorem callable_231:callable Tryz.prog 231=true:=id (by kernel_rfl)
@[go_sem] theorem callable_232:callable Tryz.prog 232=true:=id (by kernel_rfl)
@[go_sem] theorem callable_250:callable Tryz.prog 250=true:=id (by kernel_rfl)
@[go_sem] theorem callable_253:callable Tryz.prog 253=true:=id (by kernel_rfl)
@[go_sem] theorem callable_254:callable Tryz.prog 254=true:=id (by kernel_rfl)
@[go_sem] theorem callable_263:callable Tryz.prog 263=true:=id (by kernel_rfl)
@[go_sem] theorem callable_264:callable Tryz.prog 264=true:=id (by kernel_rfl)
@[go_sem] theorem callable_265:callable Tryz.prog 265=true:=id (by kernel_rfl)
@[go_sem] theorem callable_271:callable Tryz.prog 271=true:=id (by kernel_rfl)
@[go_sem] theorem callable_272:callable Tryz.prog 272=true:=id (by kernel_rfl)
@[go_sem] theorem callable_273:callable Tryz.prog 273=true:=id (by kernel_rfl)
@[go_sem] theorem callable_274:callable Tryz.prog 274=true:=id (by kernel_rfl)
@[go_sem] theorem callable_275:callable Tryz.prog 275=true:=id (by kernel_rfl)
@[go_sem] theorem callable_280:callable Tryz.prog 280=true:=id (by kernel_rfl)
@[go_sem] theorem callable_281:callable Tryz.prog 281=true:=id (by kernel_rfl)
@[go_sem] theorem callable_283:callable Tryz.prog 283=true:=id (by kernel_rfl)
@[go_sem] theorem callable_287:callable Tryz.prog 287=true:=id (by kernel_rfl)
@[go_sem] theorem callable_288:callable Tryz.prog 288=true:=id (by kernel_rfl)
@[go_sem] theorem callable_289:callable Tryz.prog 289=true:=id (by kernel_rfl)
@[go_sem] theorem callable_290:callable Tryz.prog 290=true:=id (by kernel_rfl)
@[go_sem] theorem callable_294:callable Tryz.prog 294=true:=id (by kernel_rfl)
@[go_sem] theorem callable_295:callable Tryz.prog 295=true:=id (by kernel_rfl)
@[go_sem] theorem callable_322:callable Tryz.prog 322=true:=id (by kernel_rfl)
@[go_sem] theorem callable_325:callable Tryz.prog 325=true:=id (by kernel_rfl)
@[go_sem] theorem callable_326:callable Tryz.prog 326=true:=id (by kernel_rfl)
end Go.Proofs.YtgglehcchdkbdaaGreat
