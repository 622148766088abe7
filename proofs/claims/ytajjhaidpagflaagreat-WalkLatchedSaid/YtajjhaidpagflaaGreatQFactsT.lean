/-
Facts of the program, printed by a program of mine: types.
No conditions.
-/
import Derived.Test.YtajjhaidpagflaaGreatQEngS
import Derived.Test.YtajjhaidpagflaaGreatProg
import Derived.KernelRfl
set_option linter.unusedSectionVars false
set_option linter.unusedSimpArgs false
set_option linter.unusedVariables false
namespace Go.Proofs.YtajjhaidpagflaaGreat
open Go Go.Eng
set_option maxRecDepth 20000
theorem mixed:Tryz.prog.follows .mixedOrders=true:=by kernel_rfl
def pl0 (_:Nat):Plan:=.done
def tb0 (_:Nat):List Row:=[]
def pu:Pu:=[(19,0),(59,0),(5,0),(119,0),(172,0),(117,0),(116,0),(58,0),(55,0),(138,0),(201,0),(23,0),(69,0),(223,0),(170,0),(174,0),(251,0),(105,0),(106,0),(164,0),(43,0),(224,0),(252,0),(225,0),(42,0),(221,0),(173,0),(171,0),(65,0),(41,0),(219,0),(120,0),(118,0),(26,0),(220,0),(111,0),(167,0),(168,0),(222,0),(227,0),(177,0),(178,0),(199,0),(229,0),(60,0),(62,0),(63,0),(64,0),(66,0),(81,0),(93,0),(71,0),(108,0),(80,0),(109,0),(78,0),(241,0),(259,0),(249,0),(210,0),(157,0),(289,0),(159,0),(214,0),(213,0),(297,0),(295,0),(88,0),(90,0),(287,0),(286,0),(288,0),(160,0),(89,0),(294,0),(292,0),(158,0),(87,0),(293,0),(296,0),(86,0),(165,0),(216,0),(217,0),(226,0),(253,0),(209,0),(25,2),(152,2),(153,2),(154,2),(155,2),(92,2),(254,2),(98,2),(100,2),(44,2),(46,2),(121,2),(96,2),(282,2),(231,2),(232,2),(181,2),(184,2),(139,2),(115,2),(70,2),(137,2),(17,2),(280,2),(27,2),(29,2),(187,2),(68,2),(73,2),(190,2),(82,2),(136,2),(94,2),(95,2),(72,2),(37,2),(85,2),(67,2),(180,2),(183,2),(13,2),(24,2),(97,2),(99,2),(35,2),(45,2),(102,2),(83,2),(107,2),(283,2),(235,2),(196,2),(234,2),(256,2),(38,2),(12,2),(243,2),(203,2),(242,2),(250,2),(142,2),(200,2),(114,2),(169,2),(143,2)]
def Ent [Toks] (f:Nat) (F:Func) (pl:Nat→Plan) (rs:List ResultVar) (n:Nat):Prop:=
  ∀{c:Code} {args:List HV} {PS:PL} {K:HV→PL→Prop},F.body=some c→hvc (hop Tryz.prog) (drawBy Tryz.prog pu pl) c (hret Tryz.prog rs K) (hframe n args) PS→HCall Tryz.prog f args PS K
theorem ent [Toks] {f:Nat} {F:Func} (tb:Nat→List Row) {pl:Nat→Plan} {rs:List ResultVar} {n:Nat} (hf:Tryz.prog.funcs[f]? =some F) (hr:F.results=rs.toArray) (hn:F.ntmps=n) (hp:(match F.body with | some c=>plansOk pu tb pl c | none=>true)=true):Ent f F pl rs n:=by
  intro c args PS K hc h
  rw[hc] at hp
  refine hcall_of_plans tb pl pu mixed hf hc hp ?_
  rw[hr,hn]
  exact h
@[go_sem ↓,go_sem] theorem pu_69:List.lookup 69 pu=some 0:=id (by kernel_rfl)
@[go_sem ↓,go_sem] theorem pu_157:List.lookup 157 pu=some 0:=id (by kernel_rfl)
@[go_sem ↓,go_sem] theorem pu_209:List.lookup 209 pu=some 0:=id (by kernel_rfl)
@[go_sem ↓,go_sem] theorem pu_210:List.lookup 210 pu=some 0:=id (by kernel_rfl)
@[go_sem ↓,go_sem] theorem pu_223:List.lookup 223 pu=some 0:=id (by kernel_rfl)
@[go_sem ↓,go_sem] theorem pu_224:List.lookup 224 pu=some 0:=id (by kernel_rfl)
@[go_sem ↓,go_sem] theorem pu_249:List.lookup 249 pu=some 0:=id (by kernel_rfl)
@[go_sem ↓,go_sem] theorem pu_250:List.lookup 250 pu=some 2:=id (by kernel_rfl)
@[go_sem ↓,go_sem] theorem pu_251:List.lookup 251 pu=some 0:=id (by kernel_rfl)
@[go_sem ↓,go_sem] theorem pu_252:List.lookup 252 pu=some 0:=id (by kernel_rfl)
@[go_sem ↓,go_sem] theorem pu_289:List.lookup 289 pu=some 0:=id (by kernel_rfl)
@[go_sem ↓,go_sem] theorem pu_297:List.lookup 297 pu=some 0:=id (by kernel_rfl)
@[go_sem] theorem tsz_3:tsz Tryz.prog 3=some (false,1):=id (by kernel_rfl)
attribute [go_sem] Tryz.underlying3
@[go_sem] theorem tsz_4:tsz Tryz.prog 4=some (false,1):=id (by kernel_rfl)
attribute [go_sem] Tryz.underlying4
@[go_sem] theorem tsz_5:tsz Tryz.prog 5=some (false,1):=id (by kernel_rfl)
attribute [go_sem] Tryz.underlying5
attribute [go_sem] Tryz.underlying9
@[go_sem] theorem tsz_22:tsz Tryz.prog 22=some (false,1):=id (by kernel_rfl)
@[go_sem] theorem slOf_22:slOf Tryz.prog 22=some (3,1):=id (by kernel_rfl)
@[go_sem] theorem mkOf_22:mkOf Tryz.prog 22=some (1,8,[.int .i64 0]):=id (by kernel_rfl)
attribute [go_sem] Tryz.underlying22
attribute [go_sem] Tryz.underlying23
attribute [go_sem] Tryz.underlying24
@[go_sem] theorem slOf_27:slOf Tryz.prog 27=none:=id (by kernel_rfl)
@[go_sem] theorem arOf_27:arOf Tryz.prog 27=some (8,5,1):=id (by kernel_rfl)
attribute [go_sem] Tryz.underlying27
@[go_sem] theorem eqO_29:eqO Tryz.prog 29=some [(0,1),(1,1),(2,1),(3,1),(4,1),(5,1),(6,1),(7,1),(8,1)]:=id (by kernel_rfl)
@[go_sem] theorem tsz_29:tsz Tryz.prog 29=some (true,9):=id (by kernel_rfl)
@[go_sem] theorem zcells_29:zcells Tryz.prog 29=some ([.int .i64 0]++List.replicate 8 (.int .u8 0)):=id (by kernel_rfl)
@[go_sem] theorem bknown_29:bknown Tryz.prog 29=true:=id (by kernel_rfl)
@[go_sem] theorem fldOf_29_0:fldOf Tryz.prog 29 0=some (0,1):=id (by kernel_rfl)
@[go_sem] theorem bplace_29_0:bplace Tryz.prog 29 0=some (0,1):=id (by kernel_rfl)
@[go_sem] theorem fldOf_29_1:fldOf Tryz.prog 29 1=some (1,8):=id (by kernel_rfl)
attribute [go_sem] Tryz.underlying29
attribute [go_sem] Tryz.underlying36
attribute [go_sem] Tryz.underlying40
@[go_sem] theorem slOf_42:slOf Tryz.prog 42=none:=id (by kernel_rfl)
@[go_sem] theorem arOf_42:arOf Tryz.prog 42=some (16,5,1):=id (by kernel_rfl)
attribute [go_sem] Tryz.underlying42
@[go_sem] theorem eqO_44:eqO Tryz.prog 44=some [(0,1),(1,1),(2,1),(3,1),(4,1),(5,1),(6,1),(7,1),(8,1),(9,1),(10,1),(11,1),(12,1),(13,1),(14,1),(15,1),(16,1)]:=id (by kernel_rfl)
@[go_sem] theorem tsz_44:tsz Tryz.prog 44=some (true,17):=id (by kernel_rfl)
@[go_sem] theorem zcells_44:zcells Tryz.prog 44=some ([.int .i64 0]++List.replicate 16 (.int .u8 0)):=id (by kernel_rfl)
@[go_sem] theorem bknown_44:bknown Tryz.prog 44=true:=id (by kernel_rfl)
@[go_sem] theorem fldOf_44_0:fldOf Tryz.prog 44 0=some (0,1):=id (by kernel_rfl)
@[go_sem] theorem bplace_44_0:bplace Tryz.prog 44 0=some (0,1):=id (by kernel_rfl)
@[go_sem] theorem fldOf_44_1:fldOf Tryz.prog 44 1=some (1,16):=id (by kernel_rfl)
attribute [go_sem] Tryz.underlying44
attribute [go_sem] Tryz.underlying50
@[go_sem] theorem slOf_56:slOf Tryz.prog 56=some (5,1):=id (by kernel_rfl)
@[go_sem] theorem mkOf_56:mkOf Tryz.prog 56=some (1,1,[.int .u8 0]):=id (by kernel_rfl)
attribute [go_sem] Tryz.underlying56
@[go_sem] theorem tsz_59:tsz Tryz.prog 59=some (false,1):=id (by kernel_rfl)
@[go_sem] theorem slOf_59:slOf Tryz.prog 59=some (168,26):=id (by kernel_rfl)
@[go_sem] theorem mkOf_59:mkOf Tryz.prog 59=some (26,40,[.int .i64 0]++List.replicate 8 (.int .u8 0)++[.int .i64 0]++List.replicate 16 (.int .u8 0)):=id (by kernel_rfl)
attribute [go_sem] Tryz.underlying59
@[go_sem] theorem tsz_60:tsz Tryz.prog 60=some (false,1):=id (by kernel_rfl)
@[go_sem] theorem slOf_60:slOf Tryz.prog 60=some (29,9):=id (by kernel_rfl)
@[go_sem] theorem mkOf_60:mkOf Tryz.prog 60=some (9,16,[.int .i64 0]++List.replicate 8 (.int .u8 0)):=id (by kernel_rfl)
attribute [go_sem] Tryz.underlying60
@[go_sem] theorem tsz_61:tsz Tryz.prog 61=some (false,1):=id (by kernel_rfl)
@[go_sem] theorem slOf_61:slOf Tryz.prog 61=some (81,29):=id (by kernel_rfl)
@[go_sem] theorem mkOf_61:mkOf Tryz.prog 61=some (29,64,[.int .i64 0]++[.int .u64 0]++[.int .i64 0]++List.replicate 8 (.int .u8 0)++[.int .i64 0]++List.replicate 16 (.int .u8 0)++[.int .u64 0]):=id (by kernel_rfl)
attribute [go_sem] Tryz.underlying61
@[go_sem] theorem tsz_63:tsz Tryz.prog 63=some (true,5):=id (by kernel_rfl)
@[go_sem] theorem fldOf_63_0:fldOf Tryz.prog 63 0=some (0,1):=id (by kernel_rfl)
@[go_sem] theorem fldOf_63_1:fldOf Tryz.prog 63 1=some (1,1):=id (by kernel_rfl)
@[go_sem] theorem fldOf_63_2:fldOf Tryz.prog 63 2=some (2,1):=id (by kernel_rfl)
@[go_sem] theorem fldOf_63_3:fldOf Tryz.prog 63 3=some (3,1):=id (by kernel_rfl)
@[go_sem] theorem fldOf_63_4:fldOf Tryz.prog 63 4=some (4,1):=id (by kernel_rfl)
attribute [go_sem] Tryz.underlying63
attribute [go_sem] Tryz.underlying68
attribute [go_sem] Tryz.underlying69
attribute [go_sem] Tryz.underlying70
attribute [go_sem] Tryz.underlying71
attribute [go_sem] Tryz.underlying73
attribute [go_sem] Tryz.underlying76
@[go_sem] theorem tsz_79:tsz Tryz.prog 79=some (false,1):=id (by kernel_rfl)
attribute [go_sem] Tryz.underlying79
@[go_sem] theorem tsz_81:tsz Tryz.prog 81=some (true,29):=id (by kernel_rfl)
@[go_sem] theorem zcells_81:zcells Tryz.prog 81=some ([.int .i64 0]++[.int .u64 0]++[.int .i64 0]++List.replicate 8 (.int .u8 0)++[.int .i64 0]++List.replicate 16 (.int .u8 0)++[.int .u64 0]):=id (by kernel_rfl)
@[go_sem] theorem bknown_81:bknown Tryz.prog 81=true:=id (by kernel_rfl)
@[go_sem] theorem fldOf_81_0:fldOf Tryz.prog 81 0=some (0,1):=id (by kernel_rfl)
@[go_sem] theorem bplace_81_0:bplace Tryz.prog 81 0=some (0,1):=id (by kernel_rfl)
@[go_sem] theorem fldOf_81_1:fldOf Tryz.prog 81 1=some (1,1):=id (by kernel_rfl)
@[go_sem] theorem bplace_81_1:bplace Tryz.prog 81 1=some (1,1):=id (by kernel_rfl)
@[go_sem] theorem fldOf_81_2:fldOf Tryz.prog 81 2=some (2,9):=id (by kernel_rfl)
@[go_sem] theorem bplace_81_2:bplace Tryz.prog 81 2=some (2,9):=id (by kernel_rfl)
@[go_sem] theorem fldOf_81_3:fldOf Tryz.prog 81 3=some (11,17):=id (by kernel_rfl)
@[go_sem] theorem bplace_81_3:bplace Tryz.prog 81 3=some (11,17):=id (by kernel_rfl)
@[go_sem] theorem fldOf_81_4:fldOf Tryz.prog 81 4=some (28,1):=id (by kernel_rfl)
attribute [go_sem] Tryz.underlying81
attribute [go_sem] Tryz.underlying83
@[go_sem] theorem mkOf_86:mkOf Tryz.prog 86=some (2,16,[.int .i64 0,.bool false]):=id (by kernel_rfl)
attribute [go_sem] Tryz.underlying86
attribute [go_sem] Tryz.underlying88
attribute [go_sem] Tryz.underlying90
attribute [go_sem] Tryz.underlying97
attribute [go_sem] Tryz.underlying100
attribute [go_sem] Tryz.underlying109
attribute [go_sem] Tryz.underlying112
attribute [go_sem] Tryz.underlying115
attribute [go_sem] Tryz.underlying117
attribute [go_sem] Tryz.underlying123
attribute [go_sem] Tryz.underlying138
attribute [go_sem] Tryz.underlying139
attribute [go_sem] Tryz.underlying141
attribute [go_sem] Tryz.underlying143
attribute [go_sem] Tryz.underlying144
attribute [go_sem] Tryz.underlying145
attribute [go_sem] Tryz.underlying146
attribute [go_sem] Tryz.underlying148
attribute [go_sem] Tryz.underlying157
attribute [go_sem] Tryz.underlying159
attribute [go_sem] Tryz.underlying163
@[go_sem] theorem tsz_168:tsz Tryz.prog 168=some (true,26):=id (by kernel_rfl)
@[go_sem] theorem zcells_168:zcells Tryz.prog 168=some ([.int .i64 0]++List.replicate 8 (.int .u8 0)++[.int .i64 0]++List.replicate 16 (.int .u8 0)):=id (by kernel_rfl)
@[go_sem] theorem bknown_168:bknown Tryz.prog 168=true:=id (by kernel_rfl)
@[go_sem] theorem fldOf_168_0:fldOf Tryz.prog 168 0=some (0,9):=id (by kernel_rfl)
@[go_sem] theorem bplace_168_0:bplace Tryz.prog 168 0=some (0,9):=id (by kernel_rfl)
@[go_sem] theorem fldOf_168_1:fldOf Tryz.prog 168 1=some (9,17):=id (by kernel_rfl)
@[go_sem] theorem bplace_168_1:bplace Tryz.prog 168 1=some (9,17):=id (by kernel_rfl)
attribute [go_sem] Tryz.underlying168
attribute [go_sem] Tryz.underlying172
attribute [go_sem] Tryz.underlying173
attribute [go_sem] Tryz.underlying175
attribute [go_sem] Tryz.underlying178
attribute [go_sem] Tryz.underlying181
attribute [go_sem] Tryz.underlying183
attribute [go_sem] Tryz.underlying184
attribute [go_sem] Tryz.underlying185
attribute [go_sem] Tryz.underlying187
attribute [go_sem] Tryz.underlying189
@[go_sem] theorem tsz_193:tsz Tryz.prog 193=some (false,1):=id (by kernel_rfl)
attribute [go_sem] Tryz.underlying193
attribute [go_sem] Tryz.underlying196
attribute [go_sem] Tryz.underlying210
attribute [go_sem] Tryz.underlying212
attribute [go_sem] Tryz.underlying214
attribute [go_sem] Tryz.underlying217
attribute [go_sem] Tryz.underlying219
attribute [go_sem] Tryz.underlying230
attribute [go_sem] Tryz.underlying243
@[go_sem] theorem tsz_257:tsz Tryz.prog 257=some (true,2):=id (by kernel_rfl)
@[go_sem] theorem slOf_257:slOf Tryz.prog 257=none:=id (by kernel_rfl)
@[go_sem] theorem arOf_257:arOf Tryz.prog 257=some (2,3,1):=id (by kernel_rfl)
@[go_sem] theorem zcells_257:zcells Tryz.prog 257=some ([.int .i64 0,.int .i64 0]):=id (by kernel_rfl)
@[go_sem] theorem bknown_257:bknown Tryz.prog 257=true:=id (by kernel_rfl)
@[go_sem] theorem bplace_257_0:bplace Tryz.prog 257 0=some (0,1):=id (by kernel_rfl)
@[go_sem] theorem bplace_257_1:bplace Tryz.prog 257 1=some (1,1):=id (by kernel_rfl)
attribute [go_sem] Tryz.underlying257
@[go_sem] theorem fldOf_261_1:fldOf Tryz.prog 261 1=some (1,1):=id (by kernel_rfl)
@[go_sem] theorem fldOf_261_2:fldOf Tryz.prog 261 2=some (2,1):=id (by kernel_rfl)
@[go_sem] theorem fldOf_261_3:fldOf Tryz.prog 261 3=some (3,1):=id (by kernel_rfl)
@[go_sem] theorem fldOf_261_4:fldOf Tryz.prog 261 4=some (4,1):=id (by kernel_rfl)
attribute [go_sem] Tryz.underlying261
@[go_sem] theorem fldOf_262_1:fldOf Tryz.prog 262 1=some (1,1):=id (by kernel_rfl)
@[go_sem] theorem fldOf_262_2:fldOf Tryz.prog 262 2=some (2,1):=id (by kernel_rfl)
@[go_sem] theorem fldOf_262_3:fldOf Tryz.prog 262 3=some (3,1):=id (by kernel_rfl)
@[go_sem] theorem fldOf_262_4:fldOf Tryz.prog 262 4=some (4,1):=id (by kernel_rfl)
attribute [go_sem] Tryz.underlying262
attribute [go_sem] Tryz.underlying273
attribute [go_sem] Tryz.underlying275
attribute [go_sem] Tryz.underlying277
@[go_sem] theorem tsz_289:tsz Tryz.prog 289=some (true,256):=id (by kernel_rfl)
@[go_sem] theorem slOf_289:slOf Tryz.prog 289=none:=id (by kernel_rfl)
@[go_sem] theorem arOf_289:arOf Tryz.prog 289=some (256,193,1):=id (by kernel_rfl)
@[go_sem] theorem zcells_289:zcells Tryz.prog 289=some (List.replicate 256 (.int .u32 0)):=id (by kernel_rfl)
attribute [go_sem] Tryz.underlying289
@[go_sem] theorem callable_5:callable Tryz.prog 5=true:=id (by kernel_rfl)
@[go_sem] theorem callable_19:callable Tryz.prog 19=true:=id (by kernel_rfl)
@[go_sem] theorem callable_23:callable Tryz.prog 23=true:=id (by kernel_rfl)
@[go_sem] theorem callable_25:callable Tryz.prog 25=true:=id (by kernel_rfl)
@[go_sem] theorem callable_26:callable Tryz.prog 26=true:=id (by kernel_rfl)
@[go_sem] theorem callable_41:callable Tryz.prog 41=true:=id (by kernel_rfl)
@[go_sem] theorem callable_43:callable Tryz.prog 43=true:=id (by kernel_rfl)
@[go_sem] theorem callable_69:callable Tryz.prog 69=true:=id (by kernel_rfl)
@[go_sem] theorem callable_100:callable Tryz.prog 100=true:=id (by kernel_rfl)
@[go_sem] theorem callable_105:callable Tryz.prog 105=true:=id (by kernel_rfl)
@[go_sem] theorem callable_106:callable Tryz.prog 106=true:=id (by kernel_rfl)
@[go_sem] theorem callable_113:callable Tryz.prog 113=true:=id (by kernel_rfl)
@[go_sem] theorem callable_118:callable Tryz.prog 118=true:=id (by kernel_rfl)
@[go_sem] theorem callable_119:callable Tryz.prog 119=true:=id (by kernel_rfl)
@[go_sem] theorem callable_120:callable Tryz.prog 120=true:=id (by kernel_rfl)
@[go_sem] theorem callable_157:callable Tryz.prog 157=true:=id (by kernel_rfl)
@[go_sem] theorem callable_158:callable Tryz.prog 158=true:=id (by kernel_rfl)
@[go_sem] theorem callable_159:callable Tryz.prog 159=true:=id (by kernel_rfl)
@[go_sem] theorem callable_160:callable Tryz.prog 160=true:=id (by kernel_rfl)
@[go_sem] theorem callable_164:callable Tryz.prog 164=true:=id (by kernel_rfl)
@[go_sem] theorem callable_167:callable Tryz.prog 167=true:=id (by kernel_rfl)
@[go_sem] theorem callable_168:callable Tryz.prog 168=true:=id (by kernel_rfl)
@[go_sem] theorem callable_170:callable Tryz.prog 170=true:=id (by kernel_rfl)
@[go_sem] theorem callable_171:callable Tryz.prog 171=true:=id (by kernel_rfl)
@[go_sem] theorem callable_172:callable Tryz.prog 172=true:=id (by kernel_rfl)
@[go_sem] theorem callable_173:callable Tryz.prog 173=true:=id (by kernel_rfl)
@[go_sem] theorem callable_174:callable Tryz.prog 174=true:=id (by kernel_rfl)
@[go_sem] theorem callable_200:callable Tryz.prog 200=true:=id (by kernel_rfl)
@[go_sem] theorem callable_202:callable Tryz.prog 202=true:=id (by kernel_rfl)
@[go_sem] theorem callable_209:callable Tryz.prog 209=true:=id (by kernel_rfl)
@[go_sem] theorem callable_210:callable Tryz.prog 210=true:=id (by kernel_rfl)
@[go_sem] theorem callable_211:callable Tryz.prog 211=true:=id (by kernel_rfl)
@[go_sem] theorem callable_213:callable Tryz.prog 213=true:=id (by kernel_rfl)
@[go_sem] theorem callable_214:callable Tryz.prog 214=true:=id (by kernel_rfl)
@[go_sem] theorem callable_215:callable Tryz.prog 215=true:=id (by kernel_rfl)
@[go_sem] theorem callable_216:callable Tryz.prog 216=true:=id (by kernel_rfl)
@[go_sem] theorem callable_217:callable Tryz.prog 217=true:=id (by kernel_rfl)
@[go_sem] theorem callable_219:callable Tryz.prog 219=true:=id (by kernel_rfl)
@[go_sem] theorem callable_220:callable Tryz.prog 220=true:=id (by kernel_rfl)
@[go_sem] theorem callable_221:callable Tryz.prog 221=true:=id (by kernel_rfl)
@[go_sem] theorem callable_223:callable Tryz.prog 223=true:=id (by kernel_rfl)
@[go_sem] theorem callable_224:callable Tryz.prog 224=true:=id (by kernel_rfl)
@[go_sem] theorem callable_225:callable Tryz.prog 225=true:=id (by kernel_rfl)
@[go_sem] theorem callable_241:callable Tryz.prog 241=true:=id (by kernel_rfl)
@[go_sem] theorem callable_242:callable Tryz.prog 242=true:=id (by kernel_rfl)
@[go_sem] theorem callable_243:callable Tryz.prog 243=true:=id (by kernel_rfl)
@[go_sem] theorem callable_248:callable Tryz.prog 248=true:=id (by kernel_rfl)
@[go_sem] theorem callable_249:callable Tryz.prog 249=true:=id (by kernel_rfl)
@[go_sem] theorem callable_250:callable Tryz.prog 250=true:=id (by kernel_rfl)
@[go_sem] theorem callable_251:callable Tryz.prog 251=true:=id (by kernel_rfl)
@[go_sem] theorem callable_252:callable Tryz.prog 252=true:=id (by kernel_rfl)
@[go_sem] theorem callable_259:callable Tryz.prog 259=true:=id (by kernel_rfl)
@[go_sem] theorem callable_286:callable Tryz.prog 286=true:=id (by kernel_rfl)
@[go_sem] theorem callable_287:callable Tryz.prog 287=true:=id (by kernel_rfl)
@[go_sem] theorem callable_288:callable Tryz.prog 288=true:=id (by kernel_rfl)
@[go_sem] theorem callable_289:callable Tryz.prog 289=true:=id (by kernel_rfl)
@[go_sem] theorem callable_292:callable Tryz.prog 292=true:=id (by kernel_rfl)
@[go_sem] theorem callable_293:callable Tryz.prog 293=true:=id (by kernel_rfl)
@[go_sem] theorem callable_294:callable Tryz.prog 294=true:=id (by kernel_rfl)
@[go_sem] theorem callable_295:callable Tryz.prog 295=true:=id (by kernel_rfl)
@[go_sem] theorem callable_296:callable Tryz.prog 296=true:=id (by kernel_rfl)
@[go_sem] theorem callable_297:callable Tryz.prog 297=true:=id (by kernel_rfl)
end Go.Proofs.YtajjhaidpagflaaGreat
