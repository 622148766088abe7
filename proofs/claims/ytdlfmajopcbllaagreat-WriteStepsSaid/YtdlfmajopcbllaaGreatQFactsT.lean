/-
Facts of the program, printed by a program of mine: types.
No conditions.
-/
import Derived.Test.YtdlfmajopcbllaaGreatQEngS
import Derived.Test.YtdlfmajopcbllaaGreatProg
import Derived.KernelRfl
set_option linter.unusedSectionVars false
set_option linter.unusedSimpArgs false
set_option linter.unusedVariables false
namespace Go.Proofs.YtdlfmajopcbllaaGreat
open Go Go.Eng
set_option maxRecDepth 20000
theorem mixed:Tryz.prog.follows .mixedOrders=true:=by kernel_rfl
def pl0 (_:Nat):Plan:=.done
def tb0 (_:Nat):List Row:=[]
def pu:Pu:=[(35,0),(60,0),(81,0),(10,0),(66,0),(32,0),(139,0),(138,0),(80,0),(120,0),(122,0),(123,0),(77,0),(112,0),(189,0),(40,0),(90,0),(262,0),(222,0),(129,0),(263,0),(288,0),(289,0),(316,0),(225,0),(287,0),(191,0),(114,0),(285,0),(56,0),(223,0),(87,0),(224,0),(283,0),(55,0),(140,0),(41,0),(284,0),(133,0),(220,0),(22,0),(286,0),(153,0),(226,0),(227,0),(187,0),(291,0),(82,0),(84,0),(85,0),(86,0),(88,0),(166,0),(156,0),(160,0),(125,0),(108,0),(126,0),(132,0),(314,0),(334,0),(302,0),(253,0),(178,0),(346,0),(180,0),(257,0),(256,0),(343,0),(337,0),(105,0),(107,0),(368,0),(338,0),(339,0),(181,0),(106,0),(372,0),(324,0),(179,0),(104,0),(371,0),(267,0),(103,0),(201,0),(274,0),(113,0),(124,0),(198,0),(252,0),(17,2),(121,2),(182,2),(183,2),(184,2),(185,2),(155,2),(199,2),(171,2),(173,2),(49,2),(51,2),(30,2),(63,2),(364,2),(293,2),(294,2),(230,2),(233,2),(204,2),(137,2),(131,2),(111,2),(16,2),(362,2),(95,2),(68,2),(236,2),(53,2),(159,2),(186,2),(167,2),(110,2),(157,2),(158,2),(161,2),(94,2),(67,2),(52,2),(229,2),(232,2),(42,2),(33,2),(20,2),(27,2),(170,2),(172,2),(92,2),(50,2),(175,2),(168,2),(109,2),(365,2),(297,2),(244,2),(296,2),(317,2),(100,2),(15,2),(304,2),(277,2),(315,2),(303,2),(211,2),(188,2),(136,2),(221,2),(203,2)]
def Ent [Toks] (f:Nat) (F:Func) (pl:Nat→Plan) (rs:List ResultVar) (n:Nat):Prop:=
  ∀{c:Code} {args:List HV} {PS:PL} {K:HV→PL→Prop},F.body=some c→hvc (hop Tryz.prog) (drawBy Tryz.prog pu pl) c (hret Tryz.prog rs K) (hframe n args) PS→HCall Tryz.prog f args PS K
theorem ent [Toks] {f:Nat} {F:Func} (tb:Nat→List Row) {pl:Nat→Plan} {rs:List ResultVar} {n:Nat} (hf:Tryz.prog.funcs[f]? =some F) (hr:F.results=rs.toArray) (hn:F.ntmps=n) (hp:(match F.body with | some c=>plansOk pu tb pl c | none=>true)=true):Ent f F pl rs n:=by
  intro c args PS K hc h
  rw[hc] at hp
  refine hcall_of_plans tb pl pu mixed hf hc hp ?_
  rw[hr,hn]
  exact h
@[go_sem ↓,go_sem] theorem pu_90:List.lookup 90 pu=some 0:=id (by kernel_rfl)
@[go_sem ↓,go_sem] theorem pu_178:List.lookup 178 pu=some 0:=id (by kernel_rfl)
@[go_sem ↓,go_sem] theorem pu_191:List.lookup 191 pu=some 0:=id (by kernel_rfl)
@[go_sem ↓,go_sem] theorem pu_202:List.lookup 202 pu=none:=id (by kernel_rfl)
@[go_sem ↓,go_sem] theorem pu_203:List.lookup 203 pu=some 2:=id (by kernel_rfl)
@[go_sem ↓,go_sem] theorem pu_211:List.lookup 211 pu=some 2:=id (by kernel_rfl)
@[go_sem ↓,go_sem] theorem pu_252:List.lookup 252 pu=some 0:=id (by kernel_rfl)
@[go_sem ↓,go_sem] theorem pu_253:List.lookup 253 pu=some 0:=id (by kernel_rfl)
@[go_sem ↓,go_sem] theorem pu_262:List.lookup 262 pu=some 0:=id (by kernel_rfl)
@[go_sem ↓,go_sem] theorem pu_263:List.lookup 263 pu=some 0:=id (by kernel_rfl)
@[go_sem ↓,go_sem] theorem pu_275:List.lookup 275 pu=none:=id (by kernel_rfl)
@[go_sem ↓,go_sem] theorem pu_276:List.lookup 276 pu=none:=id (by kernel_rfl)
@[go_sem ↓,go_sem] theorem pu_302:List.lookup 302 pu=some 0:=id (by kernel_rfl)
@[go_sem ↓,go_sem] theorem pu_303:List.lookup 303 pu=some 2:=id (by kernel_rfl)
@[go_sem ↓,go_sem] theorem pu_304:List.lookup 304 pu=some 2:=id (by kernel_rfl)
@[go_sem ↓,go_sem] theorem pu_343:List.lookup 343 pu=some 0:=id (by kernel_rfl)
@[go_sem ↓,go_sem] theorem pu_346:List.lookup 346 pu=some 0:=id (by kernel_rfl)
@[go_sem] theorem tsz_3:tsz Tryz.prog 3=some (false,1):=id (by kernel_rfl)
@[go_sem] theorem zcells_3:zcells Tryz.prog 3=some ([.int .i64 0]):=id (by kernel_rfl)
attribute [go_sem] Tryz.underlying3
@[go_sem] theorem tsz_4:tsz Tryz.prog 4=some (false,1):=id (by kernel_rfl)
attribute [go_sem] Tryz.underlying4
@[go_sem] theorem tsz_5:tsz Tryz.prog 5=some (false,1):=id (by kernel_rfl)
attribute [go_sem] Tryz.underlying5
attribute [go_sem] Tryz.underlying9
@[go_sem] theorem tsz_22:tsz Tryz.prog 22=some (false,1):=id (by kernel_rfl)
@[go_sem] theorem slOf_22:slOf Tryz.prog 22=some (3,1):=id (by kernel_rfl)
@[go_sem] theorem mkOf_22:mkOf Tryz.prog 22=some (1,8,[.int .i64 0]):=id (by kernel_rfl)
attribute [go_sem] Tryz.underlying22
attribute [go_sem] Tryz.underlying23
attribute [go_sem] Tryz.underlying24
@[go_sem] theorem slOf_28:slOf Tryz.prog 28=none:=id (by kernel_rfl)
@[go_sem] theorem arOf_28:arOf Tryz.prog 28=some (8,5,1):=id (by kernel_rfl)
attribute [go_sem] Tryz.underlying28
@[go_sem] theorem eqO_30:eqO Tryz.prog 30=some [(0,1),(1,1),(2,1),(3,1),(4,1),(5,1),(6,1),(7,1),(8,1)]:=id (by kernel_rfl)
@[go_sem] theorem tsz_30:tsz Tryz.prog 30=some (true,9):=id (by kernel_rfl)
@[go_sem] theorem zcells_30:zcells Tryz.prog 30=some ([.int .i64 0]++List.replicate 8 (.int .u8 0)):=id (by kernel_rfl)
@[go_sem] theorem bknown_30:bknown Tryz.prog 30=true:=id (by kernel_rfl)
@[go_sem] theorem fldOf_30_0:fldOf Tryz.prog 30 0=some (0,1):=id (by kernel_rfl)
@[go_sem] theorem bplace_30_0:bplace Tryz.prog 30 0=some (0,1):=id (by kernel_rfl)
@[go_sem] theorem fldOf_30_1:fldOf Tryz.prog 30 1=some (1,8):=id (by kernel_rfl)
attribute [go_sem] Tryz.underlying30
attribute [go_sem] Tryz.underlying33
@[go_sem] theorem tsz_41:tsz Tryz.prog 41=some (false,1):=id (by kernel_rfl)
@[go_sem] theorem slOf_41:slOf Tryz.prog 41=some (189,26):=id (by kernel_rfl)
@[go_sem] theorem mkOf_41:mkOf Tryz.prog 41=some (26,40,[.int .i64 0]++List.replicate 8 (.int .u8 0)++[.int .i64 0]++List.replicate 16 (.int .u8 0)):=id (by kernel_rfl)
attribute [go_sem] Tryz.underlying41
@[go_sem] theorem tsz_42:tsz Tryz.prog 42=some (false,1):=id (by kernel_rfl)
@[go_sem] theorem slOf_42:slOf Tryz.prog 42=some (30,9):=id (by kernel_rfl)
@[go_sem] theorem mkOf_42:mkOf Tryz.prog 42=some (9,16,[.int .i64 0]++List.replicate 8 (.int .u8 0)):=id (by kernel_rfl)
attribute [go_sem] Tryz.underlying42
@[go_sem] theorem tsz_43:tsz Tryz.prog 43=some (false,1):=id (by kernel_rfl)
@[go_sem] theorem slOf_43:slOf Tryz.prog 43=some (65,29):=id (by kernel_rfl)
@[go_sem] theorem mkOf_43:mkOf Tryz.prog 43=some (29,64,[.int .i64 0]++[.int .u64 0]++[.int .i64 0]++List.replicate 8 (.int .u8 0)++[.int .i64 0]++List.replicate 16 (.int .u8 0)++[.int .u64 0]):=id (by kernel_rfl)
attribute [go_sem] Tryz.underlying43
@[go_sem] theorem tsz_45:tsz Tryz.prog 45=some (true,5):=id (by kernel_rfl)
@[go_sem] theorem zcells_45:zcells Tryz.prog 45=some ([.bool false,.imm true [],.imm true [],.imm true [],.imm true []]):=id (by kernel_rfl)
@[go_sem] theorem bknown_45:bknown Tryz.prog 45=true:=id (by kernel_rfl)
@[go_sem] theorem fldOf_45_0:fldOf Tryz.prog 45 0=some (0,1):=id (by kernel_rfl)
@[go_sem] theorem bplace_45_0:bplace Tryz.prog 45 0=some (0,1):=id (by kernel_rfl)
@[go_sem] theorem fldOf_45_1:fldOf Tryz.prog 45 1=some (1,1):=id (by kernel_rfl)
@[go_sem] theorem fldOf_45_2:fldOf Tryz.prog 45 2=some (2,1):=id (by kernel_rfl)
@[go_sem] theorem fldOf_45_3:fldOf Tryz.prog 45 3=some (3,1):=id (by kernel_rfl)
@[go_sem] theorem fldOf_45_4:fldOf Tryz.prog 45 4=some (4,1):=id (by kernel_rfl)
attribute [go_sem] Tryz.underlying45
attribute [go_sem] Tryz.underlying50
attribute [go_sem] Tryz.underlying57
@[go_sem] theorem tsz_60:tsz Tryz.prog 60=some (false,1):=id (by kernel_rfl)
attribute [go_sem] Tryz.underlying60
@[go_sem] theorem slOf_61:slOf Tryz.prog 61=none:=id (by kernel_rfl)
@[go_sem] theorem arOf_61:arOf Tryz.prog 61=some (16,5,1):=id (by kernel_rfl)
attribute [go_sem] Tryz.underlying61
@[go_sem] theorem eqO_63:eqO Tryz.prog 63=some [(0,1),(1,1),(2,1),(3,1),(4,1),(5,1),(6,1),(7,1),(8,1),(9,1),(10,1),(11,1),(12,1),(13,1),(14,1),(15,1),(16,1)]:=id (by kernel_rfl)
@[go_sem] theorem tsz_63:tsz Tryz.prog 63=some (true,17):=id (by kernel_rfl)
@[go_sem] theorem zcells_63:zcells Tryz.prog 63=some ([.int .i64 0]++List.replicate 16 (.int .u8 0)):=id (by kernel_rfl)
@[go_sem] theorem bknown_63:bknown Tryz.prog 63=true:=id (by kernel_rfl)
@[go_sem] theorem fldOf_63_0:fldOf Tryz.prog 63 0=some (0,1):=id (by kernel_rfl)
@[go_sem] theorem bplace_63_0:bplace Tryz.prog 63 0=some (0,1):=id (by kernel_rfl)
@[go_sem] theorem fldOf_63_1:fldOf Tryz.prog 63 1=some (1,16):=id (by kernel_rfl)
attribute [go_sem] Tryz.underlying63
@[go_sem] theorem tsz_65:tsz Tryz.prog 65=some (true,29):=id (by kernel_rfl)
@[go_sem] theorem zcells_65:zcells Tryz.prog 65=some ([.int .i64 0]++[.int .u64 0]++[.int .i64 0]++List.replicate 8 (.int .u8 0)++[.int .i64 0]++List.replicate 16 (.int .u8 0)++[.int .u64 0]):=id (by kernel_rfl)
@[go_sem] theorem bknown_65:bknown Tryz.prog 65=true:=id (by kernel_rfl)
@[go_sem] theorem fldOf_65_0:fldOf Tryz.prog 65 0=some (0,1):=id (by kernel_rfl)
@[go_sem] theorem bplace_65_0:bplace Tryz.prog 65 0=some (0,1):=id (by kernel_rfl)
@[go_sem] theorem fldOf_65_1:fldOf Tryz.prog 65 1=some (1,1):=id (by kernel_rfl)
@[go_sem] theorem bplace_65_1:bplace Tryz.prog 65 1=some (1,1):=id (by kernel_rfl)
@[go_sem] theorem fldOf_65_2:fldOf Tryz.prog 65 2=some (2,9):=id (by kernel_rfl)
@[go_sem] theorem bplace_65_2:bplace Tryz.prog 65 2=some (2,9):=id (by kernel_rfl)
@[go_sem] theorem fldOf_65_3:fldOf Tryz.prog 65 3=some (11,17):=id (by kernel_rfl)
@[go_sem] theorem bplace_65_3:bplace Tryz.prog 65 3=some (11,17):=id (by kernel_rfl)
@[go_sem] theorem fldOf_65_4:fldOf Tryz.prog 65 4=some (28,1):=id (by kernel_rfl)
attribute [go_sem] Tryz.underlying65
attribute [go_sem] Tryz.underlying69
@[go_sem] theorem tsz_75:tsz Tryz.prog 75=some (false,1):=id (by kernel_rfl)
@[go_sem] theorem slOf_75:slOf Tryz.prog 75=some (5,1):=id (by kernel_rfl)
@[go_sem] theorem mkOf_75:mkOf Tryz.prog 75=some (1,1,[.int .u8 0]):=id (by kernel_rfl)
attribute [go_sem] Tryz.underlying75
attribute [go_sem] Tryz.underlying80
attribute [go_sem] Tryz.underlying81
attribute [go_sem] Tryz.underlying89
attribute [go_sem] Tryz.underlying90
attribute [go_sem] Tryz.underlying91
attribute [go_sem] Tryz.underlying92
attribute [go_sem] Tryz.underlying93
attribute [go_sem] Tryz.underlying95
@[go_sem] theorem mkOf_97:mkOf Tryz.prog 97=some (2,16,[.int .i64 0,.bool false]):=id (by kernel_rfl)
attribute [go_sem] Tryz.underlying97
attribute [go_sem] Tryz.underlying99
attribute [go_sem] Tryz.underlying100
attribute [go_sem] Tryz.underlying101
attribute [go_sem] Tryz.underlying102
attribute [go_sem] Tryz.underlying103
attribute [go_sem] Tryz.underlying105
attribute [go_sem] Tryz.underlying109
attribute [go_sem] Tryz.underlying111
attribute [go_sem] Tryz.underlying116
attribute [go_sem] Tryz.underlying135
attribute [go_sem] Tryz.underlying147
attribute [go_sem] Tryz.underlying153
attribute [go_sem] Tryz.underlying155
attribute [go_sem] Tryz.underlying166
attribute [go_sem] Tryz.underlying167
attribute [go_sem] Tryz.underlying168
attribute [go_sem] Tryz.underlying170
attribute [go_sem] Tryz.underlying172
attribute [go_sem] Tryz.underlying175
attribute [go_sem] Tryz.underlying177
attribute [go_sem] Tryz.underlying179
attribute [go_sem] Tryz.underlying181
attribute [go_sem] Tryz.underlying182
attribute [go_sem] Tryz.underlying184
@[go_sem] theorem tsz_189:tsz Tryz.prog 189=some (true,26):=id (by kernel_rfl)
@[go_sem] theorem zcells_189:zcells Tryz.prog 189=some ([.int .i64 0]++List.replicate 8 (.int .u8 0)++[.int .i64 0]++List.replicate 16 (.int .u8 0)):=id (by kernel_rfl)
@[go_sem] theorem bknown_189:bknown Tryz.prog 189=true:=id (by kernel_rfl)
@[go_sem] theorem fldOf_189_0:fldOf Tryz.prog 189 0=some (0,9):=id (by kernel_rfl)
@[go_sem] theorem bplace_189_0:bplace Tryz.prog 189 0=some (0,9):=id (by kernel_rfl)
@[go_sem] theorem fldOf_189_1:fldOf Tryz.prog 189 1=some (9,17):=id (by kernel_rfl)
@[go_sem] theorem bplace_189_1:bplace Tryz.prog 189 1=some (9,17):=id (by kernel_rfl)
attribute [go_sem] Tryz.underlying189
attribute [go_sem] Tryz.underlying191
@[go_sem] theorem tsz_201:tsz Tryz.prog 201=some (false,1):=id (by kernel_rfl)
@[go_sem] theorem slOf_201:slOf Tryz.prog 201=some (4,1):=id (by kernel_rfl)
@[go_sem] theorem mkOf_201:mkOf Tryz.prog 201=some (1,1,[.bool false]):=id (by kernel_rfl)
@[go_sem] theorem zcells_201:zcells Tryz.prog 201=some ([.imm true []]):=id (by kernel_rfl)
attribute [go_sem] Tryz.underlying201
attribute [go_sem] Tryz.underlying209
attribute [go_sem] Tryz.underlying210
attribute [go_sem] Tryz.underlying211
attribute [go_sem] Tryz.underlying215
attribute [go_sem] Tryz.underlying220
attribute [go_sem] Tryz.underlying222
attribute [go_sem] Tryz.underlying224
attribute [go_sem] Tryz.underlying225
attribute [go_sem] Tryz.underlying227
@[go_sem] theorem tsz_230:tsz Tryz.prog 230=some (false,1):=id (by kernel_rfl)
attribute [go_sem] Tryz.underlying230
attribute [go_sem] Tryz.underlying233
attribute [go_sem] Tryz.underlying240
attribute [go_sem] Tryz.underlying263
attribute [go_sem] Tryz.underlying275
@[go_sem] theorem zcells_277:zcells Tryz.prog 277=some ([.imm true [],.int .i64 0,.bool false]):=id (by kernel_rfl)
@[go_sem] theorem bknown_277:bknown Tryz.prog 277=true:=id (by kernel_rfl)
@[go_sem] theorem fldOf_277_0:fldOf Tryz.prog 277 0=some (0,1):=id (by kernel_rfl)
@[go_sem] theorem bplace_277_0:bplace Tryz.prog 277 0=some (0,1):=id (by kernel_rfl)
@[go_sem] theorem fldOf_277_1:fldOf Tryz.prog 277 1=some (1,1):=id (by kernel_rfl)
@[go_sem] theorem bplace_277_1:bplace Tryz.prog 277 1=some (1,1):=id (by kernel_rfl)
@[go_sem] theorem fldOf_277_2:fldOf Tryz.prog 277 2=some (2,1):=id (by kernel_rfl)
attribute [go_sem] Tryz.underlying277
attribute [go_sem] Tryz.underlying279
attribute [go_sem] Tryz.underlying282
attribute [go_sem] Tryz.underlying284
attribute [go_sem] Tryz.underlying285
attribute [go_sem] Tryz.underlying290
attribute [go_sem] Tryz.underlying301
attribute [go_sem] Tryz.underlying302
attribute [go_sem] Tryz.underlying304
@[go_sem] theorem fldOf_307_1:fldOf Tryz.prog 307 1=some (1,1):=id (by kernel_rfl)
@[go_sem] theorem fldOf_307_2:fldOf Tryz.prog 307 2=some (2,1):=id (by kernel_rfl)
@[go_sem] theorem fldOf_307_3:fldOf Tryz.prog 307 3=some (3,1):=id (by kernel_rfl)
@[go_sem] theorem fldOf_307_4:fldOf Tryz.prog 307 4=some (4,1):=id (by kernel_rfl)
attribute [go_sem] Tryz.underlying307
@[go_sem] theorem fldOf_308_1:fldOf Tryz.prog 308 1=some (1,1):=id (by kernel_rfl)
@[go_sem] theorem fldOf_308_2:fldOf Tryz.prog 308 2=some (2,1):=id (by kernel_rfl)
@[go_sem] theorem fldOf_308_3:fldOf Tryz.prog 308 3=some (3,1):=id (by kernel_rfl)
@[go_sem] theorem fldOf_308_4:fldOf Tryz.prog 308 4=some (4,1):=id (by kernel_rfl)
attribute [go_sem] Tryz.underlying308
attribute [go_sem] Tryz.underlying325
attribute [go_sem] Tryz.underlying336
attribute [go_sem] Tryz.underlying339
attribute [go_sem] Tryz.underlying341
attribute [go_sem] Tryz.underlying352
@[go_sem] theorem tsz_353:tsz Tryz.prog 353=some (true,256):=id (by kernel_rfl)
@[go_sem] theorem slOf_353:slOf Tryz.prog 353=none:=id (by kernel_rfl)
@[go_sem] theorem arOf_353:arOf Tryz.prog 353=some (256,230,1):=id (by kernel_rfl)
@[go_sem] theorem zcells_353:zcells Tryz.prog 353=some (List.replicate 256 (.int .u32 0)):=id (by kernel_rfl)
attribute [go_sem] Tryz.underlying353
attribute [go_sem] Tryz.underlying355
attribute [go_sem] Tryz.underlying356
@[go_sem] theorem callable_10:callable Tryz.prog 10=true:=id (by kernel_rfl)
@[go_sem] theorem callable_17:callable Tryz.prog 17=true:=id (by kernel_rfl)
@[go_sem] theorem callable_22:callable Tryz.prog 22=true:=id (by kernel_rfl)
@[go_sem] theorem callable_35:callable Tryz.prog 35=true:=id (by kernel_rfl)
@[go_sem] theorem callable_40:callable Tryz.prog 40=true:=id (by kernel_rfl)
@[go_sem] theorem callable_41:callable Tryz.prog 41=true:=id (by kernel_rfl)
@[go_sem] theorem callable_55:callable Tryz.prog 55=true:=id (by kernel_rfl)
@[go_sem] theorem callable_56:callable Tryz.prog 56=true:=id (by kernel_rfl)
@[go_sem] theorem callable_66:callable Tryz.prog 66=true:=id (by kernel_rfl)
@[go_sem] theorem callable_90:callable Tryz.prog 90=true:=id (by kernel_rfl)
@[go_sem] theorem callable_113:callable Tryz.prog 113=true:=id (by kernel_rfl)
@[go_sem] theorem callable_114:callable Tryz.prog 114=true:=id (by kernel_rfl)
@[go_sem] theorem callable_126:callable Tryz.prog 126=true:=id (by kernel_rfl)
@[go_sem] theorem callable_129:callable Tryz.prog 129=true:=id (by kernel_rfl)
@[go_sem] theorem callable_140:callable Tryz.prog 140=true:=id (by kernel_rfl)
@[go_sem] theorem callable_173:callable Tryz.prog 173=true:=id (by kernel_rfl)
@[go_sem] theorem callable_178:callable Tryz.prog 178=true:=id (by kernel_rfl)
@[go_sem] theorem callable_190:callable Tryz.prog 190=true:=id (by kernel_rfl)
@[go_sem] theorem callable_191:callable Tryz.prog 191=true:=id (by kernel_rfl)
@[go_sem] theorem callable_198:callable Tryz.prog 198=true:=id (by kernel_rfl)
@[go_sem] theorem callable_199:callable Tryz.prog 199=true:=id (by kernel_rfl)
@[go_sem] theorem callable_200:callable Tryz.prog 200=true:=id (by kernel_rfl)
@[go_sem] theorem callable_201:callable Tryz.prog 201=true:=id (by kernel_rfl)
@[go_sem] theorem callable_202:callable Tryz.prog 202=true:=id (by kernel_rfl)
@[go_sem] theorem callable_203:callable Tryz.prog 203=true:=id (by kernel_rfl)
@[go_sem] theorem callable_210:callable Tryz.prog 210=true:=id (by kernel_rfl)
@[go_sem] theorem callable_211:callable Tryz.prog 211=true:=id (by kernel_rfl)
@[go_sem] theorem callable_212:callable Tryz.prog 212=true:=id (by kernel_rfl)
@[go_sem] theorem callable_213:callable Tryz.prog 213=true:=id (by kernel_rfl)
@[go_sem] theorem callable_214:callable Tryz.prog 214=true:=id (by kernel_rfl)
@[go_sem] theorem callable_215:callable Tryz.prog 215=true:=id (by kernel_rfl)
@[go_sem] theorem callable_216:callable Tryz.prog 216=true:=id (by kernel_rfl)
@[go_sem] theorem callable_217:callable Tryz.prog 217=true:=id (by kernel_rfl)
@[go_sem] theorem callable_218:callable Tryz.prog 218=true:=id (by kernel_rfl)
@[go_sem] theorem callable_219:callable Tryz.prog 219=true:=id (by kernel_rfl)
@[go_sem] theorem callable_220:callable Tryz.prog 220=true:=id (by kernel_rfl)
@[go_sem] theorem callable_222:callable Tryz.prog 222=true:=id (by kernel_rfl)
@[go_sem] theorem callable_224:callable Tryz.prog 224=true:=id (by kernel_rfl)
@[go_sem] theorem callable_225:callable Tryz.prog 225=true:=id (by kernel_rfl)
@[go_sem] theorem callable_252:callable Tryz.prog 252=true:=id (by kernel_rfl)
@[go_sem] theorem callable_253:callable Tryz.prog 253=true:=id (by kernel_rfl)
@[go_sem] theorem callable_262:callable Tryz.prog 262=true:=id (by kernel_rfl)
@[go_sem] theorem callable_263:callable Tryz.prog 263=true:=id (by kernel_rfl)
@[go_sem] theorem callable_267:callable Tryz.prog 267=true:=id (by kernel_rfl)
@[go_sem] theorem callable_274:callable Tryz.prog 274=true:=id (by kernel_rfl)
@[go_sem] theorem callable_275:callable Tryz.prog 275=true:=id (by kernel_rfl)
@[go_sem] theorem callable_276:callable Tryz.prog 276=true:=id (by kernel_rfl)
@[go_sem] theorem callable_277:callable Tryz.prog 277=true:=id (by kernel_rfl)
@[go_sem] theorem callable_280:callable Tryz.prog 280=true:=id (by kernel_rfl)
@[go_sem] theorem callable_281:callable Tryz.prog 281=true:=id (by kernel_rfl)
@[go_sem] theorem callable_282:callable Tryz.prog 282=true:=id (by kernel_rfl)
@[go_sem] theorem callable_283:callable Tryz.prog 283=true:=id (by kernel_rfl)
@[go_sem] theorem callable_284:callable Tryz.prog 284=true:=id (by kernel_rfl)
@[go_sem] theorem callable_285:callable Tryz.prog 285=true:=id (by kernel_rfl)
@[go_sem] theorem callable_301:callable Tryz.prog 301=true:=id (by kernel_rfl)
@[go_sem] theorem callable_302:callable Tryz.prog 302=true:=id (by kernel_rfl)
@[go_sem] theorem callable_303:callable Tryz.prog 303=true:=id (by kernel_rfl)
@[go_sem] theorem callable_304:callable Tryz.prog 304=true:=id (by kernel_rfl)
@[go_sem] theorem callable_314:callable Tryz.prog 314=true:=id (by kernel_rfl)
@[go_sem] theorem callable_315:callable Tryz.prog 315=true:=id (by kernel_rfl)
@[go_sem] theorem callable_324:callable Tryz.prog 324=true:=id (by kernel_rfl)
@[go_sem] theorem callable_334:callable Tryz.prog 334=true:=id (by kernel_rfl)
@[go_sem] theorem callable_337:callable Tryz.prog 337=true:=id (by kernel_rfl)
@[go_sem] theorem callable_338:callable Tryz.prog 338=true:=id (by kernel_rfl)
@[go_sem] theorem callable_339:callable Tryz.prog 339=true:=id (by kernel_rfl)
@[go_sem] theorem callable_343:callable Tryz.prog 343=true:=id (by kernel_rfl)
@[go_sem] theorem callable_346:callable Tryz.prog 346=true:=id (by kernel_rfl)
@[go_sem] theorem callable_368:callable Tryz.prog 368=true:=id (by kernel_rfl)
@[go_sem] theorem callable_371:callable Tryz.prog 371=true:=id (by kernel_rfl)
@[go_sem] theorem callable_372:callable Tryz.prog 372=true:=id (by kernel_rfl)
end Go.Proofs.YtdlfmajopcbllaaGreat
