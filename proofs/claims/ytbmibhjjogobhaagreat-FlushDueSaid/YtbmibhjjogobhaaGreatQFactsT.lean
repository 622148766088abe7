/-
Facts of the program, printed by a program of mine: types.
No conditions.
-/
import Derived.Test.YtbmibhjjogobhaaGreatQEngS
import Derived.Test.YtbmibhjjogobhaaGreatProg
import Derived.KernelRfl
set_option linter.unusedSectionVars false
set_option linter.unusedSimpArgs false
set_option linter.unusedVariables false
namespace Go.Proofs.YtbmibhjjogobhaaGreat
open Go Go.Eng
set_option maxRecDepth 20000
theorem mixed:Tryz.prog.follows .mixedOrders=true:=by kernel_rfl
def pl0 (_:Nat):zL:=.done
def tb0 (_:Nat):List Row:=[]
def pu:Pu:=[(10,0),(40,0),(79,0),(80,0),(132,0),(77,0),(76,0),(39,0),(36,0),(52,0),(103,0),(135,0),(89,0),(192,0),(130,0),(136,0),(193,0),(220,0),(221,0),(260,0),(134,0),(219,0),(109,0),(56,0),(217,0),(21,0),(131,0),(46,0),(133,0),(215,0),(20,0),(78,0),(81,0),(216,0),(71,0),(128,0),(8,0),(218,0),(99,0),(142,0),(143,0),(101,0),(224,0),(41,0),(43,0),(44,0),(45,0),(47,0),(145,0),(196,0),(228,0),(68,0),(105,0),(69,0),(107,0),(258,0),(277,0),(297,0),(300,0),(293,0),(298,0),(306,0),(309,0),(308,0),(290,0),(282,0),(301,0),(303,0),(331,0),(284,0),(285,0),(302,0),(335,0),(267,0),(283,0),(334,0),(205,0),(124,0),(211,0),(55,0),(98,0),(170,0),(299,0),(230,2),(178,2),(179,2),(180,2),(181,2),(195,2),(171,2),(234,2),(236,2),(65,2),(67,2),(82,2),(137,2),(327,2),(226,2),(227,2),(147,2),(150,2),(127,2),(75,2),(106,2),(51,2),(27,2),(325,2),(152,2),(54,2),(154,2),(17,2),(177,2),(100,2),(199,2),(50,2),(197,2),(198,2),(138,2),(113,2),(53,2),(16,2),(146,2),(149,2),(57,2),(18,2),(6,2),(161,2),(235,2),(111,2),(66,2),(238,2),(200,2),(123,2),(328,2),(233,2),(167,2),(232,2),(261,2),(164,2),(264,2),(214,2),(259,2),(304,2),(183,2),(102,2),(74,2),(129,2),(126,2)]
def Ent [zB] (f:Nat) (F:Func) (pl:Nat→zL) (rs:List ResultVar) (n:Nat):Prop:=
 ∀{c:Code} {args:List HV} {PS:PL} {K:HV→PL→Prop},F.body=some c→hvc (hop Tryz.prog) (yW Tryz.prog pu pl) c (je Tryz.prog rs K) (vE n args) PS→zI Tryz.prog f args PS K
theorem ent [zB] {f:Nat} {F:Func} (tb:Nat→List Row) {pl:Nat→zL} {rs:List ResultVar} {n:Nat} (hf:Tryz.prog.funcs[f]? =some F) (hr:F.results=rs.toArray) (hn:F.ntmps=n) (hp:(match F.body with | some c=>yL pu tb pl c | none=>true)=true):Ent f F pl rs n:=by
 intro c args PS K hc h
 rw[hc] at hp
 refine zDc tb pl pu mixed hf hc hp ?_
 rw[hr,hn]
 exact h
@[go_sem ↓,go_sem] theorem zbV:List.lookup 72 pu=none:=id (by kernel_rfl)
@[go_sem ↓,go_sem] theorem zbK:List.lookup 89 pu=some 0:=id (by kernel_rfl)
@[go_sem ↓,go_sem] theorem zZh:List.lookup 102 pu=some 2:=id (by kernel_rfl)
@[go_sem ↓,go_sem] theorem zVe:List.lookup 109 pu=some 0:=id (by kernel_rfl)
@[go_sem ↓,go_sem] theorem zYz:List.lookup 125 pu=none:=id (by kernel_rfl)
@[go_sem ↓,go_sem] theorem zSn:List.lookup 126 pu=some 2:=id (by kernel_rfl)
@[go_sem ↓,go_sem] theorem zVG:List.lookup 173 pu=none:=id (by kernel_rfl)
@[go_sem ↓,go_sem] theorem zXb:List.lookup 174 pu=none:=id (by kernel_rfl)
@[go_sem ↓,go_sem] theorem zcF:List.lookup 175 pu=none:=id (by kernel_rfl)
@[go_sem ↓,go_sem] theorem zat:List.lookup 176 pu=none:=id (by kernel_rfl)
@[go_sem ↓,go_sem] theorem zVa:List.lookup 183 pu=some 2:=id (by kernel_rfl)
@[go_sem ↓,go_sem] theorem zS9:List.lookup 192 pu=some 0:=id (by kernel_rfl)
@[go_sem ↓,go_sem] theorem zW3:List.lookup 193 pu=some 0:=id (by kernel_rfl)
@[go_sem ↓,go_sem] theorem zTH:List.lookup 212 pu=none:=id (by kernel_rfl)
@[go_sem ↓,go_sem] theorem zWC:List.lookup 213 pu=none:=id (by kernel_rfl)
@[go_sem ↓,go_sem] theorem zdE:List.lookup 219 pu=some 0:=id (by kernel_rfl)
@[go_sem ↓,go_sem] theorem zTn:List.lookup 264 pu=some 2:=id (by kernel_rfl)
@[go_sem ↓,go_sem] theorem zT5:List.lookup 290 pu=some 0:=id (by kernel_rfl)
@[go_sem ↓,go_sem] theorem zbU:List.lookup 293 pu=some 0:=id (by kernel_rfl)
@[go_sem ↓,go_sem] theorem zXU:List.lookup 297 pu=some 0:=id (by kernel_rfl)
@[go_sem ↓,go_sem] theorem zY5:List.lookup 298 pu=some 0:=id (by kernel_rfl)
@[go_sem ↓,go_sem] theorem zWb:List.lookup 299 pu=some 0:=id (by kernel_rfl)
@[go_sem ↓,go_sem] theorem zaX:List.lookup 300 pu=some 0:=id (by kernel_rfl)
@[go_sem ↓,go_sem] theorem zVZ:List.lookup 304 pu=some 2:=id (by kernel_rfl)
@[go_sem] theorem zZt:tsz Tryz.prog 3=some (false,1):=id (by kernel_rfl)
@[go_sem] theorem zYR:qP Tryz.prog 3=some ([.int .i64 0]):=id (by kernel_rfl)
attribute [go_sem] Tryz.underlying3
@[go_sem] theorem zbd:tsz Tryz.prog 4=some (false,1):=id (by kernel_rfl)
attribute [go_sem] Tryz.underlying4
@[go_sem] theorem zVN:tsz Tryz.prog 5=some (false,1):=id (by kernel_rfl)
attribute [go_sem] Tryz.underlying5
attribute [go_sem] Tryz.underlying9
@[go_sem] theorem zU6:tsz Tryz.prog 22=some (false,1):=id (by kernel_rfl)
@[go_sem] theorem zTU:qO Tryz.prog 22=some (3,1):=id (by kernel_rfl)
@[go_sem] theorem zXN:yV Tryz.prog 22=some (1,8,[.int .i64 0]):=id (by kernel_rfl)
attribute [go_sem] Tryz.underlying22
attribute [go_sem] Tryz.underlying23
attribute [go_sem] Tryz.underlying24
@[go_sem] theorem zaI:tsz Tryz.prog 28=some (false,1):=id (by kernel_rfl)
@[go_sem] theorem zVE:qO Tryz.prog 28=some (116,26):=id (by kernel_rfl)
@[go_sem] theorem zUY:yV Tryz.prog 28=some (26,40,[.int .i64 0]++List.replicate 8 (.int .u8 0)++[.int .i64 0]++List.replicate 16 (.int .u8 0)):=id (by kernel_rfl)
attribute [go_sem] Tryz.underlying28
@[go_sem] theorem zbh:tsz Tryz.prog 29=some (false,1):=id (by kernel_rfl)
@[go_sem] theorem zbD:qO Tryz.prog 29=some (93,9):=id (by kernel_rfl)
@[go_sem] theorem zTD:yV Tryz.prog 29=some (9,16,[.int .i64 0]++List.replicate 8 (.int .u8 0)):=id (by kernel_rfl)
attribute [go_sem] Tryz.underlying29
@[go_sem] theorem zbb:tsz Tryz.prog 30=some (false,1):=id (by kernel_rfl)
@[go_sem] theorem zbe:qO Tryz.prog 30=some (120,29):=id (by kernel_rfl)
@[go_sem] theorem zZd:yV Tryz.prog 30=some (29,64,[.int .i64 0]++[.int .u64 0]++[.int .i64 0]++List.replicate 8 (.int .u8 0)++[.int .i64 0]++List.replicate 16 (.int .u8 0)++[.int .u64 0]):=id (by kernel_rfl)
attribute [go_sem] Tryz.underlying30
@[go_sem] theorem zXY:tsz Tryz.prog 32=some (true,5):=id (by kernel_rfl)
@[go_sem] theorem zYN:qP Tryz.prog 32=some ([.bool false,.imm true [],.imm true [],.imm true [],.imm true []]):=id (by kernel_rfl)
@[go_sem] theorem zXS:jk Tryz.prog 32=true:=id (by kernel_rfl)
@[go_sem] theorem zT8:yX Tryz.prog 32 0=some (0,1):=id (by kernel_rfl)
@[go_sem] theorem zZf:qt Tryz.prog 32 0=some (0,1):=id (by kernel_rfl)
@[go_sem] theorem zVD:yX Tryz.prog 32 1=some (1,1):=id (by kernel_rfl)
@[go_sem] theorem zTL:yX Tryz.prog 32 2=some (2,1):=id (by kernel_rfl)
@[go_sem] theorem zX9:yX Tryz.prog 32 3=some (3,1):=id (by kernel_rfl)
@[go_sem] theorem zVt:yX Tryz.prog 32 4=some (4,1):=id (by kernel_rfl)
attribute [go_sem] Tryz.underlying32
attribute [go_sem] Tryz.underlying40
attribute [go_sem] Tryz.underlying48
attribute [go_sem] Tryz.underlying49
attribute [go_sem] Tryz.underlying50
attribute [go_sem] Tryz.underlying52
attribute [go_sem] Tryz.underlying56
attribute [go_sem] Tryz.underlying61
attribute [go_sem] Tryz.underlying64
attribute [go_sem] Tryz.underlying67
attribute [go_sem] Tryz.underlying68
attribute [go_sem] Tryz.underlying70
attribute [go_sem] Tryz.underlying71
@[go_sem] theorem zTv:tsz Tryz.prog 80=some (false,1):=id (by kernel_rfl)
@[go_sem] theorem zX1:qO Tryz.prog 80=some (5,1):=id (by kernel_rfl)
@[go_sem] theorem zY4:yV Tryz.prog 80=some (1,1,[.int .u8 0]):=id (by kernel_rfl)
attribute [go_sem] Tryz.underlying80
attribute [go_sem] Tryz.underlying84
@[go_sem] theorem zSc:qO Tryz.prog 91=none:=id (by kernel_rfl)
@[go_sem] theorem zWN:wR Tryz.prog 91=some (8,5,1):=id (by kernel_rfl)
attribute [go_sem] Tryz.underlying91
@[go_sem] theorem zaw:eqO Tryz.prog 93=some [(0,1),(1,1),(2,1),(3,1),(4,1),(5,1),(6,1),(7,1),(8,1)]:=id (by kernel_rfl)
@[go_sem] theorem zbJ:tsz Tryz.prog 93=some (true,9):=id (by kernel_rfl)
@[go_sem] theorem zYn:qP Tryz.prog 93=some ([.int .i64 0]++List.replicate 8 (.int .u8 0)):=id (by kernel_rfl)
@[go_sem] theorem zUQ:jk Tryz.prog 93=true:=id (by kernel_rfl)
@[go_sem] theorem zSH:yX Tryz.prog 93 0=some (0,1):=id (by kernel_rfl)
@[go_sem] theorem zYk:qt Tryz.prog 93 0=some (0,1):=id (by kernel_rfl)
@[go_sem] theorem zcK:yX Tryz.prog 93 1=some (1,8):=id (by kernel_rfl)
attribute [go_sem] Tryz.underlying93
attribute [go_sem] Tryz.underlying101
attribute [go_sem] Tryz.underlying105
attribute [go_sem] Tryz.underlying106
attribute [go_sem] Tryz.underlying108
@[go_sem] theorem zWv:qO Tryz.prog 112=none:=id (by kernel_rfl)
@[go_sem] theorem zYa:wR Tryz.prog 112=some (16,5,1):=id (by kernel_rfl)
attribute [go_sem] Tryz.underlying112
@[go_sem] theorem zTa:eqO Tryz.prog 114=some [(0,1),(1,1),(2,1),(3,1),(4,1),(5,1),(6,1),(7,1),(8,1),(9,1),(10,1),(11,1),(12,1),(13,1),(14,1),(15,1),(16,1)]:=id (by kernel_rfl)
@[go_sem] theorem zYw:tsz Tryz.prog 114=some (true,17):=id (by kernel_rfl)
@[go_sem] theorem zab:qP Tryz.prog 114=some ([.int .i64 0]++List.replicate 16 (.int .u8 0)):=id (by kernel_rfl)
@[go_sem] theorem zU3:jk Tryz.prog 114=true:=id (by kernel_rfl)
@[go_sem] theorem zXa:yX Tryz.prog 114 0=some (0,1):=id (by kernel_rfl)
@[go_sem] theorem zXB:qt Tryz.prog 114 0=some (0,1):=id (by kernel_rfl)
@[go_sem] theorem zX4:yX Tryz.prog 114 1=some (1,16):=id (by kernel_rfl)
attribute [go_sem] Tryz.underlying114
@[go_sem] theorem zVB:tsz Tryz.prog 116=some (true,26):=id (by kernel_rfl)
@[go_sem] theorem zSU:qP Tryz.prog 116=some ([.int .i64 0]++List.replicate 8 (.int .u8 0)++[.int .i64 0]++List.replicate 16 (.int .u8 0)):=id (by kernel_rfl)
@[go_sem] theorem zTo:jk Tryz.prog 116=true:=id (by kernel_rfl)
@[go_sem] theorem zc4:yX Tryz.prog 116 0=some (0,9):=id (by kernel_rfl)
@[go_sem] theorem zYi:qt Tryz.prog 116 0=some (0,9):=id (by kernel_rfl)
@[go_sem] theorem zbu:yX Tryz.prog 116 1=some (9,17):=id (by kernel_rfl)
@[go_sem] theorem zSr:qt Tryz.prog 116 1=some (9,17):=id (by kernel_rfl)
attribute [go_sem] Tryz.underlying116
@[go_sem] theorem zad:tsz Tryz.prog 118=some (false,1):=id (by kernel_rfl)
attribute [go_sem] Tryz.underlying118
@[go_sem] theorem zW6:tsz Tryz.prog 120=some (true,29):=id (by kernel_rfl)
@[go_sem] theorem zSw:qP Tryz.prog 120=some ([.int .i64 0]++[.int .u64 0]++[.int .i64 0]++List.replicate 8 (.int .u8 0)++[.int .i64 0]++List.replicate 16 (.int .u8 0)++[.int .u64 0]):=id (by kernel_rfl)
@[go_sem] theorem zcx:jk Tryz.prog 120=true:=id (by kernel_rfl)
@[go_sem] theorem zYG:yX Tryz.prog 120 0=some (0,1):=id (by kernel_rfl)
@[go_sem] theorem zTm:qt Tryz.prog 120 0=some (0,1):=id (by kernel_rfl)
@[go_sem] theorem zby:yX Tryz.prog 120 1=some (1,1):=id (by kernel_rfl)
@[go_sem] theorem zV8:qt Tryz.prog 120 1=some (1,1):=id (by kernel_rfl)
@[go_sem] theorem zXp:yX Tryz.prog 120 2=some (2,9):=id (by kernel_rfl)
@[go_sem] theorem zV2:qt Tryz.prog 120 2=some (2,9):=id (by kernel_rfl)
@[go_sem] theorem zbg:yX Tryz.prog 120 3=some (11,17):=id (by kernel_rfl)
@[go_sem] theorem zZU:qt Tryz.prog 120 3=some (11,17):=id (by kernel_rfl)
@[go_sem] theorem zZR:yX Tryz.prog 120 4=some (28,1):=id (by kernel_rfl)
attribute [go_sem] Tryz.underlying120
attribute [go_sem] Tryz.underlying121
attribute [go_sem] Tryz.underlying123
attribute [go_sem] Tryz.underlying124
attribute [go_sem] Tryz.underlying125
attribute [go_sem] Tryz.underlying135
@[go_sem] theorem zX5:yV Tryz.prog 137=some (2,16,[.int .i64 0,.bool false]):=id (by kernel_rfl)
attribute [go_sem] Tryz.underlying137
attribute [go_sem] Tryz.underlying139
attribute [go_sem] Tryz.underlying140
@[go_sem] theorem zWD:tsz Tryz.prog 141=some (false,1):=id (by kernel_rfl)
@[go_sem] theorem za3:qO Tryz.prog 141=some (4,1):=id (by kernel_rfl)
@[go_sem] theorem zaK:yV Tryz.prog 141=some (1,1,[.bool false]):=id (by kernel_rfl)
@[go_sem] theorem zVR:qP Tryz.prog 141=some ([.imm true []]):=id (by kernel_rfl)
attribute [go_sem] Tryz.underlying141
attribute [go_sem] Tryz.underlying143
attribute [go_sem] Tryz.underlying144
attribute [go_sem] Tryz.underlying145
attribute [go_sem] Tryz.underlying146
attribute [go_sem] Tryz.underlying148
attribute [go_sem] Tryz.underlying150
attribute [go_sem] Tryz.underlying152
attribute [go_sem] Tryz.underlying154
attribute [go_sem] Tryz.underlying156
attribute [go_sem] Tryz.underlying160
attribute [go_sem] Tryz.underlying162
@[go_sem] theorem zVz:tsz Tryz.prog 165=some (false,1):=id (by kernel_rfl)
attribute [go_sem] Tryz.underlying165
attribute [go_sem] Tryz.underlying168
attribute [go_sem] Tryz.underlying175
attribute [go_sem] Tryz.underlying184
attribute [go_sem] Tryz.underlying196
attribute [go_sem] Tryz.underlying198
attribute [go_sem] Tryz.underlying204
attribute [go_sem] Tryz.underlying210
attribute [go_sem] Tryz.underlying213
attribute [go_sem] Tryz.underlying225
attribute [go_sem] Tryz.underlying231
attribute [go_sem] Tryz.underlying240
@[go_sem] theorem zYV:qP Tryz.prog 242=some ([.imm true [],.int .i64 0,.bool false]):=id (by kernel_rfl)
@[go_sem] theorem zXu:jk Tryz.prog 242=true:=id (by kernel_rfl)
@[go_sem] theorem zXH:yX Tryz.prog 242 0=some (0,1):=id (by kernel_rfl)
@[go_sem] theorem zaf:qt Tryz.prog 242 0=some (0,1):=id (by kernel_rfl)
@[go_sem] theorem zcS:yX Tryz.prog 242 1=some (1,1):=id (by kernel_rfl)
@[go_sem] theorem zXf:qt Tryz.prog 242 1=some (1,1):=id (by kernel_rfl)
@[go_sem] theorem zV3:yX Tryz.prog 242 2=some (2,1):=id (by kernel_rfl)
attribute [go_sem] Tryz.underlying242
attribute [go_sem] Tryz.underlying243
attribute [go_sem] Tryz.underlying246
attribute [go_sem] Tryz.underlying250
@[go_sem] theorem zbA:qP Tryz.prog 252=some ([.imm true [],.int .i64 0,.bool false]):=id (by kernel_rfl)
@[go_sem] theorem zUm:jk Tryz.prog 252=true:=id (by kernel_rfl)
@[go_sem] theorem zVY:yX Tryz.prog 252 0=some (0,1):=id (by kernel_rfl)
@[go_sem] theorem zVW:qt Tryz.prog 252 0=some (0,1):=id (by kernel_rfl)
@[go_sem] theorem zaZ:yX Tryz.prog 252 1=some (1,1):=id (by kernel_rfl)
@[go_sem] theorem zZz:qt Tryz.prog 252 1=some (1,1):=id (by kernel_rfl)
@[go_sem] theorem zZB:yX Tryz.prog 252 2=some (2,1):=id (by kernel_rfl)
attribute [go_sem] Tryz.underlying252
attribute [go_sem] Tryz.underlying254
@[go_sem] theorem zcz:yX Tryz.prog 258 1=some (1,1):=id (by kernel_rfl)
@[go_sem] theorem zb7:yX Tryz.prog 258 2=some (2,1):=id (by kernel_rfl)
@[go_sem] theorem zW4:yX Tryz.prog 258 3=some (3,1):=id (by kernel_rfl)
@[go_sem] theorem zdC:yX Tryz.prog 258 4=some (4,1):=id (by kernel_rfl)
attribute [go_sem] Tryz.underlying258
@[go_sem] theorem zYh:yX Tryz.prog 259 1=some (1,1):=id (by kernel_rfl)
@[go_sem] theorem zdH:yX Tryz.prog 259 2=some (2,1):=id (by kernel_rfl)
@[go_sem] theorem zay:yX Tryz.prog 259 3=some (3,1):=id (by kernel_rfl)
@[go_sem] theorem zaU:yX Tryz.prog 259 4=some (4,1):=id (by kernel_rfl)
attribute [go_sem] Tryz.underlying259
attribute [go_sem] Tryz.underlying281
attribute [go_sem] Tryz.underlying296
attribute [go_sem] Tryz.underlying299
attribute [go_sem] Tryz.underlying301
attribute [go_sem] Tryz.underlying313
@[go_sem] theorem zce:tsz Tryz.prog 314=some (true,256):=id (by kernel_rfl)
@[go_sem] theorem zZG:qO Tryz.prog 314=none:=id (by kernel_rfl)
@[go_sem] theorem zUu:wR Tryz.prog 314=some (256,165,1):=id (by kernel_rfl)
@[go_sem] theorem zWm:qP Tryz.prog 314=some (List.replicate 256 (.int .u32 0)):=id (by kernel_rfl)
attribute [go_sem] Tryz.underlying314
attribute [go_sem] Tryz.underlying320
attribute [go_sem] Tryz.underlying321
attribute [go_sem] Tryz.underlying330
@[go_sem] theorem zWW:zQ Tryz.prog 8=true:=id (by kernel_rfl)
@[go_sem] theorem zUp:zQ Tryz.prog 10=true:=id (by kernel_rfl)
@[go_sem] theorem zaW:zQ Tryz.prog 20=true:=id (by kernel_rfl)
@[go_sem] theorem zTB:zQ Tryz.prog 21=true:=id (by kernel_rfl)
@[go_sem] theorem zTR:zQ Tryz.prog 36=true:=id (by kernel_rfl)
@[go_sem] theorem zW7:zQ Tryz.prog 55=true:=id (by kernel_rfl)
@[go_sem] theorem zZ3:zQ Tryz.prog 56=true:=id (by kernel_rfl)
@[go_sem] theorem zb6:zQ Tryz.prog 69=true:=id (by kernel_rfl)
@[go_sem] theorem zSZ:zQ Tryz.prog 71=true:=id (by kernel_rfl)
@[go_sem] theorem zaD:zQ Tryz.prog 72=true:=id (by kernel_rfl)
@[go_sem] theorem zai:zQ Tryz.prog 73=true:=id (by kernel_rfl)
@[go_sem] theorem zcL:zQ Tryz.prog 74=true:=id (by kernel_rfl)
@[go_sem] theorem zcg:zQ Tryz.prog 78=true:=id (by kernel_rfl)
@[go_sem] theorem zbC:zQ Tryz.prog 79=true:=id (by kernel_rfl)
@[go_sem] theorem zSx:zQ Tryz.prog 80=true:=id (by kernel_rfl)
@[go_sem] theorem zaQ:zQ Tryz.prog 81=true:=id (by kernel_rfl)
@[go_sem] theorem zVJ:zQ Tryz.prog 89=true:=id (by kernel_rfl)
@[go_sem] theorem zXK:zQ Tryz.prog 102=true:=id (by kernel_rfl)
@[go_sem] theorem zSO:zQ Tryz.prog 103=true:=id (by kernel_rfl)
@[go_sem] theorem zcc:zQ Tryz.prog 108=true:=id (by kernel_rfl)
@[go_sem] theorem zSs:zQ Tryz.prog 109=true:=id (by kernel_rfl)
@[go_sem] theorem zT4:zQ Tryz.prog 124=true:=id (by kernel_rfl)
@[go_sem] theorem zWH:zQ Tryz.prog 125=true:=id (by kernel_rfl)
@[go_sem] theorem zWY:zQ Tryz.prog 126=true:=id (by kernel_rfl)
@[go_sem] theorem zUT:zQ Tryz.prog 128=true:=id (by kernel_rfl)
@[go_sem] theorem zc7:zQ Tryz.prog 129=true:=id (by kernel_rfl)
@[go_sem] theorem zYv:zQ Tryz.prog 130=true:=id (by kernel_rfl)
@[go_sem] theorem zb5:zQ Tryz.prog 131=true:=id (by kernel_rfl)
@[go_sem] theorem zSE:zQ Tryz.prog 132=true:=id (by kernel_rfl)
@[go_sem] theorem zT9:zQ Tryz.prog 133=true:=id (by kernel_rfl)
@[go_sem] theorem zVm:zQ Tryz.prog 134=true:=id (by kernel_rfl)
@[go_sem] theorem zZD:zQ Tryz.prog 135=true:=id (by kernel_rfl)
@[go_sem] theorem zcH:zQ Tryz.prog 136=true:=id (by kernel_rfl)
@[go_sem] theorem zau:zQ Tryz.prog 170=true:=id (by kernel_rfl)
@[go_sem] theorem zUP:zQ Tryz.prog 171=true:=id (by kernel_rfl)
@[go_sem] theorem zVo:zQ Tryz.prog 172=true:=id (by kernel_rfl)
@[go_sem] theorem zVK:zQ Tryz.prog 173=true:=id (by kernel_rfl)
@[go_sem] theorem zTY:zQ Tryz.prog 174=true:=id (by kernel_rfl)
@[go_sem] theorem zTc:zQ Tryz.prog 175=true:=id (by kernel_rfl)
@[go_sem] theorem zS7:zQ Tryz.prog 176=true:=id (by kernel_rfl)
@[go_sem] theorem zUS:zQ Tryz.prog 182=true:=id (by kernel_rfl)
@[go_sem] theorem zXc:zQ Tryz.prog 183=true:=id (by kernel_rfl)
@[go_sem] theorem zXQ:zQ Tryz.prog 184=true:=id (by kernel_rfl)
@[go_sem] theorem zbL:zQ Tryz.prog 185=true:=id (by kernel_rfl)
@[go_sem] theorem zSo:zQ Tryz.prog 186=true:=id (by kernel_rfl)
@[go_sem] theorem zVb:zQ Tryz.prog 187=true:=id (by kernel_rfl)
@[go_sem] theorem zYE:zQ Tryz.prog 188=true:=id (by kernel_rfl)
@[go_sem] theorem zc5:zQ Tryz.prog 189=true:=id (by kernel_rfl)
@[go_sem] theorem zb3:zQ Tryz.prog 190=true:=id (by kernel_rfl)
@[go_sem] theorem zZk:zQ Tryz.prog 191=true:=id (by kernel_rfl)
@[go_sem] theorem zVi:zQ Tryz.prog 192=true:=id (by kernel_rfl)
@[go_sem] theorem zWx:zQ Tryz.prog 193=true:=id (by kernel_rfl)
@[go_sem] theorem zSm:zQ Tryz.prog 205=true:=id (by kernel_rfl)
@[go_sem] theorem zVf:zQ Tryz.prog 211=true:=id (by kernel_rfl)
@[go_sem] theorem zVT:zQ Tryz.prog 212=true:=id (by kernel_rfl)
@[go_sem] theorem zaB:zQ Tryz.prog 213=true:=id (by kernel_rfl)
@[go_sem] theorem zXD:zQ Tryz.prog 214=true:=id (by kernel_rfl)
@[go_sem] theorem zTW:zQ Tryz.prog 215=true:=id (by kernel_rfl)
@[go_sem] theorem zWQ:zQ Tryz.prog 216=true:=id (by kernel_rfl)
@[go_sem] theorem zWL:zQ Tryz.prog 217=true:=id (by kernel_rfl)
@[go_sem] theorem zdG:zQ Tryz.prog 218=true:=id (by kernel_rfl)
@[go_sem] theorem zck:zQ Tryz.prog 219=true:=id (by kernel_rfl)
@[go_sem] theorem zak:zQ Tryz.prog 220=true:=id (by kernel_rfl)
@[go_sem] theorem zY2:zQ Tryz.prog 221=true:=id (by kernel_rfl)
@[go_sem] theorem zXg:zQ Tryz.prog 230=true:=id (by kernel_rfl)
@[go_sem] theorem zae:zQ Tryz.prog 236=true:=id (by kernel_rfl)
@[go_sem] theorem zUB:zQ Tryz.prog 243=true:=id (by kernel_rfl)
@[go_sem] theorem zY8:zQ Tryz.prog 244=true:=id (by kernel_rfl)
@[go_sem] theorem zar:zQ Tryz.prog 245=true:=id (by kernel_rfl)
@[go_sem] theorem zY9:zQ Tryz.prog 246=true:=id (by kernel_rfl)
@[go_sem] theorem zTG:zQ Tryz.prog 258=true:=id (by kernel_rfl)
@[go_sem] theorem zZH:zQ Tryz.prog 259=true:=id (by kernel_rfl)
@[go_sem] theorem zXP:zQ Tryz.prog 260=true:=id (by kernel_rfl)
@[go_sem] theorem zT2:zQ Tryz.prog 264=true:=id (by kernel_rfl)
@[go_sem] theorem zYl:zQ Tryz.prog 267=true:=id (by kernel_rfl)
@[go_sem] theorem zUt:zQ Tryz.prog 277=true:=id (by kernel_rfl)
@[go_sem] theorem zYq:zQ Tryz.prog 282=true:=id (by kernel_rfl)
@[go_sem] theorem zUk:zQ Tryz.prog 284=true:=id (by kernel_rfl)
@[go_sem] theorem zSM:zQ Tryz.prog 285=true:=id (by kernel_rfl)
@[go_sem] theorem zWK:zQ Tryz.prog 290=true:=id (by kernel_rfl)
@[go_sem] theorem zZW:zQ Tryz.prog 293=true:=id (by kernel_rfl)
@[go_sem] theorem za1:zQ Tryz.prog 297=true:=id (by kernel_rfl)
@[go_sem] theorem zaT:zQ Tryz.prog 298=true:=id (by kernel_rfl)
@[go_sem] theorem zcn:zQ Tryz.prog 299=true:=id (by kernel_rfl)
@[go_sem] theorem zSk:zQ Tryz.prog 300=true:=id (by kernel_rfl)
@[go_sem] theorem zTK:zQ Tryz.prog 304=true:=id (by kernel_rfl)
@[go_sem] theorem zTw:zQ Tryz.prog 305=true:=id (by kernel_rfl)
@[go_sem] theorem zb9:zQ Tryz.prog 331=true:=id (by kernel_rfl)
@[go_sem] theorem zXm:zQ Tryz.prog 334=true:=id (by kernel_rfl)
@[go_sem] theorem zbM:zQ Tryz.prog 335=true:=id (by kernel_rfl)
end Go.Proofs.YtbmibhjjogobhaaGreat
