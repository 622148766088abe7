/-
Facts of the program, printed by a program of mine: walks.
Facts of the program, printed by a program of mine: walks.
Facts of the program, printed by a program of mine: walks.
Facts of the program, printed by a program of mine: walks.
Facts of the program, printed by a program of mine: walks.
Facts of the program, printed by a program of mine: walks.
Facts of the program, printed by a program of mine: walks.
Facts of the program, printed by a program of mine: walks.
Facts of the program, printed by a program of mine: walks.
All facts of the program's text.
No conditions.
-/
import Derived.Test.YtgglehcchdkbdaaGreatQFactsT
import Derived.Test.YtgglehcchdkbdaaGreatQEngW
set_option linter.unusedSectionVars false
set_option linter.unusedSimpArgs false
set_option linter.unusedVariables false
namespace Go.Proofs.YtgglehcchdkbdaaGreat
open Go Go.Eng
set_option maxRecDepth 20000
variable [Toks]
theorem enter_13:Ent 13 Tryz.f13 pl0 [.tmp 4] 15:=ent tb0 Tryz.func13 Tryz.results13 Tryz.ntmps13 (by kernel_rfl)
theorem enter_131:Ent 131 Tryz.f131 pl0 [.tmp 2] 8:=ent tb0 Tryz.func131 Tryz.results131 Tryz.ntmps131 (by kernel_rfl)
theorem enter_132:Ent 132 Tryz.f132 pl0 [.tmp 2] 8:=ent tb0 Tryz.func132 Tryz.results132 Tryz.ntmps132 (by kernel_rfl)
theorem enter_133:Ent 133 Tryz.f133 pl0 [.tmp 2] 8:=ent tb0 Tryz.func133 Tryz.results133 Tryz.ntmps133 (by kernel_rfl)
theorem enter_134:Ent 134 Tryz.f134 pl0 [.tmp 2] 8:=ent tb0 Tryz.func134 Tryz.results134 Tryz.ntmps134 (by kernel_rfl)
theorem enter_136:Ent 136 Tryz.f136 pl0 [.tmp 2] 8:=ent tb0 Tryz.func136 Tryz.results136 Tryz.ntmps136 (by kernel_rfl)
theorem enter_205:Ent 205 Tryz.f205 pl0 [.tmp 2] 5:=ent tb0 Tryz.func205 Tryz.results205 Tryz.ntmps205 (by kernel_rfl)
theorem enter_213:Ent 213 Tryz.f213 pl0 [.tmp 2] 8:=ent tb0 Tryz.func213 Tryz.results213 Tryz.ntmps213 (by kernel_rfl)
theorem enter_250:Ent 250 Tryz.f250 pl0 [.tmp 4] 30:=ent tb0 Tryz.func250 Tryz.results250 Tryz.ntmps250 (by kernel_rfl)
theorem enter_271:Ent 271 Tryz.f271 pl0 [.cell 0 307] 26:=ent tb0 Tryz.func271 Tryz.results271 Tryz.ntmps271 (by kernel_rfl)
theorem enter_289:Ent 289 Tryz.f289 pl0 [.tmp 4] 8:=ent tb0 Tryz.func289 Tryz.results289 Tryz.ntmps289 (by kernel_rfl)
end Go.Proofs.YtgglehcchdkbdaaGreat
namespace Go.Proofs.YtgglehcchdkbdaaGreat
open Go Go.Eng
set_option maxRecDepth 20000
variable [Toks]
theorem enter_5:Ent 5 Tryz.f5 pl0 [.tmp 2] 6:=ent tb0 Tryz.func5 Tryz.results5 Tryz.ntmps5 (by kernel_rfl)
theorem enter_7:Ent 7 Tryz.f7 pl0 [.cell 2 31] 93:=ent tb0 Tryz.func7 Tryz.results7 Tryz.ntmps7 (by kernel_rfl)
def pl_11 (n:Nat):Plan:=
  match n with
  | 5=>.one 0 <| .one 1 <| .one 2 <| .one 3 <| .one 4 <| .one 5 <| .one 6 <| .done
  | _=>.done
@[go_sem] theorem plan_11_5:pl_11 5=(.one 0 <| .one 1 <| .one 2 <| .one 3 <| .one 4 <| .one 5 <| .one 6 <| .done):=id rfl
def tb_11 (n:Nat):List Row:=
  match n with
  | 5=>[⟨8192,1,0,0⟩,⟨16384,64,0,0⟩,⟨32768,24576,3,1⟩,⟨65536,32768,4,2⟩,⟨131072,8,0,2⟩,⟨262144,196608,24,0⟩,⟨524288,262144,32,1⟩]
  | _=>[]
theorem enter_11:Ent 11 Tryz.f11 pl_11 [.tmp 4] 23:=ent tb_11 Tryz.func11 Tryz.results11 Tryz.ntmps11 (by kernel_rfl)
theorem enter_23:Ent 23 Tryz.f23 pl0 [.cell 2 31,.tmp 3] 27:=ent tb0 Tryz.func23 Tryz.results23 Tryz.ntmps23 (by kernel_rfl)
theorem enter_25:Ent 25 Tryz.f25 pl0 [.tmp 4] 19:=ent tb0 Tryz.func25 Tryz.results25 Tryz.ntmps25 (by kernel_rfl)
def pl_32 (n:Nat):Plan:=
  match n with
  | 10=>.one 0 <| .one 1 <| .one 2 <| .one 3 <| .one 4 <| .one 5 <| .one 6 <| .one 7 <| .one 8 <| .one 9 <| .done
  | 12=>.one 0 <| .one 1 <| .one 2 <| .one 3 <| .one 4 <| .one 5 <| .one 6 <| .one 7 <| .one 8 <| .one 9 <| .done
  | _=>.done
@[go_sem] theorem plan_32_10:pl_32 10=(.one 0 <| .one 1 <| .one 2 <| .one 3 <| .one 4 <| .one 5 <| .one 6 <| .one 7 <| .one 8 <| .one 9 <| .done):=id rfl
@[go_sem] theorem plan_32_12:pl_32 12=(.one 0 <| .one 1 <| .one 2 <| .one 3 <| .one 4 <| .one 5 <| .one 6 <| .one 7 <| .one 8 <| .one 9 <| .done):=id rfl
def tb_32 (n:Nat):List Row:=
  match n with
  | 10=>[⟨4294967296,32,0,0⟩,⟨8589934592,4,0,1⟩,⟨17179869184,12884901888,3,1⟩,⟨34359738368,17179869184,4,2⟩,⟨68719476736,32,0,0⟩,⟨137438953472,8,0,1⟩,⟨274877906944,206158430208,48,1⟩,⟨549755813888,274877906944,64,2⟩,⟨1099511627776,584115552256,136,1⟩,⟨2147483648,1099511627776,256,0⟩]
  | 12=>[⟨4398046511104,32,0,0⟩,⟨8796093022208,4,0,1⟩,⟨17592186044416,13194139533312,3,1⟩,⟨35184372088832,17592186044416,4,2⟩,⟨70368744177664,32,0,0⟩,⟨140737488355328,8,0,1⟩,⟨281474976710656,211106232532992,48,1⟩,⟨562949953421312,281474976710656,64,2⟩,⟨1125899906842624,598134325510144,136,1⟩,⟨2199023255552,1125899906842624,256,0⟩]
  | _=>[]
theorem enter_32:Ent 32 Tryz.f32 pl_32 [.tmp 4] 51:=ent tb_32 Tryz.func32 Tryz.results32 Tryz.ntmps32 (by kernel_rfl)
end Go.Proofs.YtgglehcchdkbdaaGreat
namespace Go.Proofs.YtgglehcchdkbdaaGreat
open Go Go.Eng
set_option maxRecDepth 20000
variable [Toks]
def pl_44 (n:Nat):Plan:=
  match n with
  | 6=>.one 0 <| .one 1 <| .one 2 <| .one 3 <| .one 4 <| .alt 5 [] (.one 6 <| .alt 7 [] (.done) <| .none) <| .none
  | _=>.done
theorem enter_49:Ent 49 Tryz.f49 pl0 [.tmp 4] 38:=ent tb0 Tryz.func49 Tryz.results49 Tryz.ntmps49 (by kernel_rfl)
theorem enter_50:Ent 50 Tryz.f50 pl0 [.tmp 6] 32:=ent tb0 Tryz.func50 Tryz.results50 Tryz.ntmps50 (by kernel_rfl)
def pl_52 (n:Nat):Plan:=
  match n with
  | 6=>.one 0 <| .one 1 <| .one 2 <| .one 3 <| .one 4 <| .one 5 <| .one 6 <| .one 7 <| .one 8 <| .one 9 <| .one 10 <| .one 11 <| .one 12 <| .one 13 <| .one 14 <| .one 15 <| .one 16 <| .done
  | _=>.done
@[go_sem] theorem plan_52_6:pl_52 6=(.one 0 <| .one 1 <| .one 2 <| .one 3 <| .one 4 <| .one 5 <| .one 6 <| .one 7 <| .one 8 <| .one 9 <| .one 10 <| .one 11 <| .one 12 <| .one 13 <| .one 14 <| .one 15 <| .one 16 <| .done):=id rfl
def tb_52 (n:Nat):List Row:=
  match n with
  | 6=>[⟨4096,16,0,0⟩,⟨8192,4096,1,1⟩,⟨16384,1,0,0⟩,⟨32768,32,0,0⟩,⟨65536,49152,12,1⟩,⟨131072,65536,16,1⟩,⟨262144,131072,32,1⟩,⟨524288,262144,64,2⟩,⟨1048576,532480,130,1⟩,⟨2097152,1,0,0⟩,⟨4194304,32,0,0⟩,⟨8388608,6291456,1536,1⟩,⟨16777216,8388608,2048,1⟩,⟨33554432,16777216,4096,1⟩,⟨67108864,33554432,8192,2⟩,⟨134217728,68157440,16640,1⟩,⟨16,134217728,65535,0⟩]
  | _=>[]
theorem enter_52:Ent 52 Tryz.f52 pl_52 [.tmp 2] 38:=ent tb_52 Tryz.func52 Tryz.results52 Tryz.ntmps52 (by kernel_rfl)
theorem enter_83:Ent 83 Tryz.f83 pl0 [.tmp 2] 20:=ent tb0 Tryz.func83 Tryz.results83 Tryz.ntmps83 (by kernel_rfl)
end Go.Proofs.YtgglehcchdkbdaaGreat
namespace Go.Proofs.YtgglehcchdkbdaaGreat
open Go Go.Eng
set_option maxRecDepth 20000
variable [Toks]
theorem enter_88:Ent 88 Tryz.f88 pl0 [.tmp 2] 23:=ent tb0 Tryz.func88 Tryz.results88 Tryz.ntmps88 (by kernel_rfl)
theorem enter_90:Ent 90 Tryz.f90 pl0 [.tmp 6] 33:=ent tb0 Tryz.func90 Tryz.results90 Tryz.ntmps90 (by kernel_rfl)
def pl_93 (n:Nat):Plan:=
  match n with
  | 5=>.one 0 <| .one 1 <| .one 3 <| .one 4 <| .one 5 <| .one 6 <| .alt 2 [6,5] (.one 7 <| .one 8 <| .alt 9 [] (.one 10 <| .one 11 <| .done) <| .none) <| .none
  | _=>.done
theorem enter_94:Ent 94 Tryz.f94 pl0 [.tmp 4] 33:=ent tb0 Tryz.func94 Tryz.results94 Tryz.ntmps94 (by kernel_rfl)
def pl_95 (n:Nat):Plan:=
  match n with
  | 8=>.one 0 <| .one 1 <| .one 2 <| .one 3 <| .one 4 <| .one 5 <| .one 6 <| .one 7 <| .one 8 <| .done
  | _=>.done
@[go_sem] theorem plan_95_8:pl_95 8=(.one 0 <| .one 1 <| .one 2 <| .one 3 <| .one 4 <| .one 5 <| .one 6 <| .one 7 <| .one 8 <| .done):=id rfl
def tb_95 (n:Nat):List Row:=
  match n with
  | 8=>[⟨8589934592,1,0,0⟩,⟨17179869184,2048,0,0⟩,⟨34359738368,25769803776,3,1⟩,⟨68719476736,34359738368,4,1⟩,⟨137438953472,68719476736,8,2⟩,⟨274877906944,8,0,1⟩,⟨549755813888,274877906944,32,2⟩,⟨1099511627776,687194767360,80,0⟩,⟨4096,1099511627776,255,0⟩]
  | _=>[]
theorem enter_95:Ent 95 Tryz.f95 pl_95 [.tmp 4] 77:=ent tb_95 Tryz.func95 Tryz.results95 Tryz.ntmps95 (by kernel_rfl)
theorem enter_96:Ent 96 Tryz.f96 pl0 [.cell 2 163] 38:=ent tb0 Tryz.func96 Tryz.results96 Tryz.ntmps96 (by kernel_rfl)
def pl_97 (n:Nat):Plan:=
  match n with
  | 5=>.one 0 <| .one 1 <| .one 2 <| .one 3 <| .one 4 <| .one 5 <| .one 6 <| .one 7 <| .one 8 <| .one 9 <| .one 10 <| .one 11 <| .one 12 <| .one 13 <| .one 14 <| .one 15 <| .one 16 <| .done
  | _=>.done
@[go_sem] theorem plan_97_5:pl_97 5=(.one 0 <| .one 1 <| .one 2 <| .one 3 <| .one 4 <| .one 5 <| .one 6 <| .one 7 <| .one 8 <| .one 9 <| .one 10 <| .one 11 <| .one 12 <| .one 13 <| .one 14 <| .one 15 <| .one 16 <| .done):=id rfl
def tb_97 (n:Nat):List Row:=
  match n with
  | 5=>[⟨2048,8,0,0⟩,⟨4096,2048,1,1⟩,⟨8192,1,0,0⟩,⟨16384,16,0,0⟩,⟨32768,24576,12,1⟩,⟨65536,32768,16,1⟩,⟨131072,65536,32,1⟩,⟨262144,131072,64,2⟩,⟨524288,266240,130,1⟩,⟨1048576,1,0,0⟩,⟨2097152,16,0,0⟩,⟨4194304,3145728,1536,1⟩,⟨8388608,4194304,2048,1⟩,⟨16777216,8388608,4096,1⟩,⟨33554432,16777216,8192,2⟩,⟨67108864,34078720,16640,1⟩,⟨8,67108864,65535,0⟩]
  | _=>[]
theorem enter_97:Ent 97 Tryz.f97 pl_97 [.tmp 2] 28:=ent tb_97 Tryz.func97 Tryz.results97 Tryz.ntmps97 (by kernel_rfl)
end Go.Proofs.YtgglehcchdkbdaaGreat
namespace Go.Proofs.YtgglehcchdkbdaaGreat
open Go Go.Eng
set_option maxRecDepth 20000
variable [Toks]
theorem enter_152:Ent 152 Tryz.f152 pl0 [.tmp 2] 22:=ent tb0 Tryz.func152 Tryz.results152 Tryz.ntmps152 (by kernel_rfl)
theorem enter_155:Ent 155 Tryz.f155 pl0 [.tmp 4] 8:=ent tb0 Tryz.func155 Tryz.results155 Tryz.ntmps155 (by kernel_rfl)
theorem enter_161:Ent 161 Tryz.f161 pl0 [.tmp 2] 9:=ent tb0 Tryz.func161 Tryz.results161 Tryz.ntmps161 (by kernel_rfl)
theorem enter_162:Ent 162 Tryz.f162 pl0 [.tmp 2] 6:=ent tb0 Tryz.func162 Tryz.results162 Tryz.ntmps162 (by kernel_rfl)
theorem enter_163:Ent 163 Tryz.f163 pl0 [.tmp 2] 6:=ent tb0 Tryz.func163 Tryz.results163 Tryz.ntmps163 (by kernel_rfl)
theorem enter_165:Ent 165 Tryz.f165 pl0 [.tmp 2] 42:=ent tb0 Tryz.func165 Tryz.results165 Tryz.ntmps165 (by kernel_rfl)
theorem enter_166:Ent 166 Tryz.f166 pl0 [.tmp 2] 11:=ent tb0 Tryz.func166 Tryz.results166 Tryz.ntmps166 (by kernel_rfl)
def pl_168 (n:Nat):Plan:=
  match n with
  | 7=>.one 0 <| .one 1 <| .one 2 <| .one 3 <| .one 4 <| .one 5 <| .one 6 <| .one 7 <| .one 8 <| .one 9 <| .one 10 <| .one 11 <| .one 12 <| .one 13 <| .one 14 <| .one 15 <| .done
  | 9=>.one 0 <| .one 1 <| .one 2 <| .one 3 <| .one 4 <| .one 5 <| .one 6 <| .one 7 <| .one 8 <| .one 9 <| .one 10 <| .one 11 <| .one 12 <| .one 13 <| .one 14 <| .done
  | 11=>.one 0 <| .one 1 <| .one 2 <| .one 3 <| .one 5 <| .one 6 <| .one 11 <| .one 12 <| .one 7 <| .one 8 <| .one 9 <| .one 13 <| .alt 4 [13,8,7] (.alt 10 [13] (.alt 14 [] (.one 15 <| .done) <| .none) <| .none) <| .none
  | _=>.done
@[go_sem] theorem plan_168_7:pl_168 7=(.one 0 <| .one 1 <| .one 2 <| .one 3 <| .one 4 <| .one 5 <| .one 6 <| .one 7 <| .one 8 <| .one 9 <| .one 10 <| .one 11 <| .one 12 <| .one 13 <| .one 14 <| .one 15 <| .done):=id rfl
@[go_sem] theorem plan_168_9:pl_168 9=(.one 0 <| .one 1 <| .one 2 <| .one 3 <| .one 4 <| .one 5 <| .one 6 <| .one 7 <| .one 8 <| .one 9 <| .one 10 <| .one 11 <| .one 12 <| .one 13 <| .one 14 <| .done):=id rfl
@[go_sem] theorem plan_168_11:pl_168 11=(.one 0 <| .one 1 <| .one 2 <| .one 3 <| .one 5 <| .one 6 <| .one 11 <| .one 12 <| .one 7 <| .one 8 <| .one 9 <| .one 13 <| .alt 4 [13,8,7] (.alt 10 [13] (.alt 14 [] (.one 15 <| .done) <| .none) <| .none) <| .none):=id rfl
def tb_168 (n:Nat):List Row:=
  match n with
  | 7=>[⟨524288,32,0,0⟩,⟨1048576,8,0,0⟩,⟨2097152,1048576,2,1⟩,⟨4194304,2621440,5,1⟩,⟨8388608,4194304,8,0⟩,⟨16777216,8388616,16,0⟩,⟨33554432,8388640,16,0⟩,⟨67108864,58720256,112,1⟩,⟨134217728,75497472,144,2⟩,⟨268435456,8388609,16,0⟩,⟨536870912,8388624,16,0⟩,⟨1073741824,813694976,1552,1⟩,⟨2147483648,1082130432,2064,2⟩,⟨4294967296,2290089984,4368,0⟩,⟨8589934592,4303355904,8208,1⟩,⟨17179869184,8598323200,16400,0⟩]
  | 9=>[⟨137438953472,32,0,0⟩,⟨274877906944,8,0,0⟩,⟨549755813888,274877906944,2,1⟩,⟨1099511627776,687194767360,5,1⟩,⟨2199023255552,1099511627776,8,0⟩,⟨4398046511104,2199023255560,16,0⟩,⟨8796093022208,2199023255584,16,0⟩,⟨17592186044416,15393162788864,112,1⟩,⟨35184372088832,19791209299968,144,2⟩,⟨70368744177664,2199023255553,16,0⟩,⟨140737488355328,2199023255568,16,0⟩,⟨281474976710656,213305255788544,1552,1⟩,⟨562949953421312,283673999966208,2064,2⟩,⟨1125899906842624,600333348765696,4368,1⟩,⟨2251799813685248,1128098930098176,8208,0⟩]
  | 11=>[⟨4503599627370496,64,0,0⟩,⟨9007199254740992,8,0,0⟩,⟨18014398509481984,32,0,0⟩,⟨36028797018963968,27021597764222976,6,1⟩,⟨72057594037927936,40532396646334464,9,5⟩,⟨144115188075855872,1,0,0⟩,⟨288230376151711744,16,0,0⟩,⟨576460752303423488,432345564227567616,96,1⟩,⟨1152921504606846976,576460752303423488,128,2⟩,⟨2305843009213693952,1152921504606846976,256,0⟩,⟨4611686018427387904,2377900603251621888,528,5⟩,⟨9223372036854775808,8,0,0⟩,⟨18446744073709551616,32,0,0⟩,⟨36893488147419103232,27670116110564327424,6144,1⟩,⟨73786976294838206464,41505174165846491136,9216,5⟩,⟨64,73786976294838206464,32767,0⟩]
  | _=>[]
theorem enter_168:Ent 168 Tryz.f168 pl_168 [.tmp 2] 69:=ent tb_168 Tryz.func168 Tryz.results168 Tryz.ntmps168 (by kernel_rfl)
end Go.Proofs.YtgglehcchdkbdaaGreat
namespace Go.Proofs.YtgglehcchdkbdaaGreat
open Go Go.Eng
set_option maxRecDepth 20000
variable [Toks]
def pl_169 (n:Nat):Plan:=
  match n with
  | 6=>.one 0 <| .one 1 <| .one 2 <| .one 3 <| .one 4 <| .one 5 <| .one 6 <| .one 7 <| .one 8 <| .done
  | 8=>.one 0 <| .one 1 <| .one 2 <| .one 3 <| .one 4 <| .one 5 <| .one 6 <| .one 7 <| .alt 8 [] (.one 9 <| .done) <| .none
  | _=>.done
@[go_sem] theorem plan_169_6:pl_169 6=(.one 0 <| .one 1 <| .one 2 <| .one 3 <| .one 4 <| .one 5 <| .one 6 <| .one 7 <| .one 8 <| .done):=id rfl
@[go_sem] theorem plan_169_8:pl_169 8=(.one 0 <| .one 1 <| .one 2 <| .one 3 <| .one 4 <| .one 5 <| .one 6 <| .one 7 <| .alt 8 [] (.one 9 <| .done) <| .none):=id rfl
def tb_169 (n:Nat):List Row:=
  match n with
  | 6=>[⟨32768,1,0,0⟩,⟨65536,128,0,0⟩,⟨131072,98304,3,1⟩,⟨262144,131072,4,1⟩,⟨524288,262144,8,2⟩,⟨1048576,8,0,1⟩,⟨2097152,1048576,32,2⟩,⟨4194304,2621440,80,0⟩,⟨256,4194304,255,0⟩]
  | 8=>[⟨33554432,32,0,0⟩,⟨67108864,1,0,0⟩,⟨134217728,128,0,0⟩,⟨268435456,201326592,6,1⟩,⟨536870912,268435456,8,2⟩,⟨1073741824,8,0,2⟩,⟨2147483648,1610612736,48,0⟩,⟨4294967296,2147483648,64,0⟩,⟨8589934592,4328521728,193,5⟩,⟨32,8589934592,511,0⟩]
  | _=>[]
theorem enter_169:Ent 169 Tryz.f169 pl_169 [.tmp 4] 58:=ent tb_169 Tryz.func169 Tryz.results169 Tryz.ntmps169 (by kernel_rfl)
theorem enter_170:Ent 170 Tryz.f170 pl0 [.cell 4 170] 35:=ent tb0 Tryz.func170 Tryz.results170 Tryz.ntmps170 (by kernel_rfl)
theorem enter_171:Ent 171 Tryz.f171 pl0 [.tmp 2] 19:=ent tb0 Tryz.func171 Tryz.results171 Tryz.ntmps171 (by kernel_rfl)
def pl_172 (n:Nat):Plan:=
  match n with
  | 4=>.one 0 <| .one 1 <| .one 2 <| .one 3 <| .one 4 <| .one 5 <| .one 6 <| .done
  | _=>.done
@[go_sem] theorem plan_172_4:pl_172 4=(.one 0 <| .one 1 <| .one 2 <| .one 3 <| .one 4 <| .one 5 <| .one 6 <| .done):=id rfl
def tb_172 (n:Nat):List Row:=
  match n with
  | 4=>[⟨8192,1,0,0⟩,⟨16384,64,0,0⟩,⟨32768,24576,3,1⟩,⟨65536,32768,4,1⟩,⟨131072,65536,8,2⟩,⟨262144,8,0,2⟩,⟨524288,393216,48,1⟩]
  | _=>[]
theorem enter_172:Ent 172 Tryz.f172 pl_172 [.cell 4 163,.tmp 5] 26:=ent tb_172 Tryz.func172 Tryz.results172 Tryz.ntmps172 (by kernel_rfl)
theorem enter_173:Ent 173 Tryz.f173 pl0 [.cell 6 163,.tmp 7] 26:=ent tb0 Tryz.func173 Tryz.results173 Tryz.ntmps173 (by kernel_rfl)
theorem enter_174:Ent 174 Tryz.f174 pl0 [.cell 2 163,.tmp 3] 27:=ent tb0 Tryz.func174 Tryz.results174 Tryz.ntmps174 (by kernel_rfl)
theorem enter_196:Ent 196 Tryz.f196 pl0 [.tmp 6,.tmp 7] 45:=ent tb0 Tryz.func196 Tryz.results196 Tryz.ntmps196 (by kernel_rfl)
end Go.Proofs.YtgglehcchdkbdaaGreat
namespace Go.Proofs.YtgglehcchdkbdaaGreat
open Go Go.Eng
set_option maxRecDepth 20000
variable [Toks]
theorem enter_214:Ent 214 Tryz.f214 pl0 [.tmp 2] 29:=ent tb0 Tryz.func214 Tryz.results214 Tryz.ntmps214 (by kernel_rfl)
theorem enter_216:Ent 216 Tryz.f216 pl0 [.tmp 4] 19:=ent tb0 Tryz.func216 Tryz.results216 Tryz.ntmps216 (by kernel_rfl)
def pl_219 (n:Nat):Plan:=
  match n with
  | 4=>.one 0 <| .one 1 <| .one 2 <| .one 3 <| .one 4 <| .one 5 <| .one 6 <| .one 7 <| .one 8 <| .one 9 <| .one 10 <| .one 12 <| .one 13 <| .one 17 <| .one 18 <| .one 14 <| .one 15 <| .one 16 <| .one 19 <| .one 20 <| .alt 11 [19,15,14] (.alt 21 [] (.one 22 <| .one 23 <| .done) <| .none) <| .none
  | _=>.done
def pl_224 (n:Nat):Plan:=
  match n with
  | 4=>.one 0 <| .one 1 <| .one 2 <| .one 3 <| .one 4 <| .one 5 <| .one 6 <| .one 7 <| .one 8 <| .one 9 <| .one 10 <| .one 11 <| .one 12 <| .one 13 <| .one 14 <| .one 15 <| .one 16 <| .one 17 <| .one 18 <| .one 19 <| .one 20 <| .one 21 <| .one 22 <| .one 23 <| .one 24 <| .one 25 <| .one 26 <| .one 27 <| .one 28 <| .one 29 <| .one 30 <| .one 31 <| .one 32 <| .one 33 <| .one 34 <| .done
  | _=>.done
@[go_sem] theorem plan_224_4:pl_224 4=(.one 0 <| .one 1 <| .one 2 <| .one 3 <| .one 4 <| .one 5 <| .one 6 <| .one 7 <| .one 8 <| .one 9 <| .one 10 <| .one 11 <| .one 12 <| .one 13 <| .one 14 <| .one 15 <| .one 16 <| .one 17 <| .one 18 <| .one 19 <| .one 20 <| .one 21 <| .one 22 <| .one 23 <| .one 24 <| .one 25 <| .one 26 <| .one 27 <| .one 28 <| .one 29 <| .one 30 <| .one 31 <| .one 32 <| .one 33 <| .one 34 <| .done):=id rfl
def tb_224 (n:Nat):List Row:=
  match n with
  | 4=>[⟨1024,1,0,0⟩,⟨2048,8,0,0⟩,⟨4096,3072,3,1⟩,⟨8192,4096,4,1⟩,⟨16384,8192,8,2⟩,⟨32768,16384,16,0⟩,⟨65536,32768,32,0⟩,⟨131072,65536,96,0⟩,⟨262144,131073,128,0⟩,⟨524288,131080,128,0⟩,⟨1048576,917504,896,1⟩,⟨2097152,1179648,1152,1⟩,⟨4194304,2228224,2176,2⟩,⟨8388608,4325376,4224,0⟩,⟨16777216,8519680,8320,0⟩,⟨33554432,16908288,16512,0⟩,⟨67108864,33554432,40960,0⟩,⟨134217728,67108872,65536,0⟩,⟨268435456,201326592,196608,1⟩,⟨536870912,335544320,327680,0⟩,⟨1073741824,536870913,524288,0⟩,⟨2147483648,536870920,524288,0⟩,⟨4294967296,2684354560,2621440,1⟩,⟨8589934592,5905580032,5767168,1⟩,⟨17179869184,9126805504,8912896,1⟩,⟨34359738368,17716740096,17301504,2⟩,⟨68719476736,536870913,524288,0⟩,⟨137438953472,536870920,524288,0⟩,⟨274877906944,206695301120,201850880,1⟩,⟨549755813888,275414777856,268959744,1⟩,⟨1099511627776,550292684800,537395200,2⟩,⟨2199023255552,1134408237056,1107820544,0⟩,⟨4398046511104,2199560126464,2148007936,1⟩,⟨8796093022208,4398650490880,4295557120,0⟩,⟨17592186044416,8796160131072,8590000128,0⟩]
  | _=>[]
theorem enter_224:Ent 224 Tryz.f224 pl_224 [.tmp 2] 45:=ent tb_224 Tryz.func224 Tryz.results224 Tryz.ntmps224 (by kernel_rfl)
def pl_225 (n:Nat):Plan:=
  match n with
  | 11=>.one 0 <| .one 1 <| .one 2 <| .one 3 <| .one 4 <| .one 5 <| .one 6 <| .one 7 <| .one 8 <| .one 9 <| .one 10 <| .one 11 <| .one 12 <| .one 13 <| .one 14 <| .one 15 <| .one 16 <| .one 17 <| .one 18 <| .one 19 <| .one 20 <| .one 21 <| .one 22 <| .done
  | _=>.done
@[go_sem] theorem plan_225_11:pl_225 11=(.one 0 <| .one 1 <| .one 2 <| .one 3 <| .one 4 <| .one 5 <| .one 6 <| .one 7 <| .one 8 <| .one 9 <| .one 10 <| .one 11 <| .one 12 <| .one 13 <| .one 14 <| .one 15 <| .one 16 <| .one 17 <| .one 18 <| .one 19 <| .one 20 <| .one 21 <| .one 22 <| .done):=id rfl
def tb_225 (n:Nat):List Row:=
  match n with
  | 11=>[⟨144115188075855872,2,0,0⟩,⟨288230376151711744,64,0,0⟩,⟨576460752303423488,432345564227567616,3,1⟩,⟨1152921504606846976,576460752303423488,4,2⟩,⟨2305843009213693952,1152921504606846976,8,0⟩,⟨4611686018427387904,2305843009213693952,16,0⟩,⟨9223372036854775808,4611686018427387904,48,0⟩,⟨18446744073709551616,9223372036854775872,64,0⟩,⟨36893488147419103232,27670116110564327424,192,1⟩,⟨73786976294838206464,46116860184273879040,320,0⟩,⟨147573952589676412928,73786976294838206466,512,0⟩,⟨295147905179352825856,73786976294838206528,512,0⟩,⟨590295810358705651712,368934881474191032320,2560,1⟩,⟨1180591620717411303424,811656739243220271104,5632,1⟩,⟨2361183241434822606848,1254378597012249509888,8704,2⟩,⟨4722366482869645213696,73786976294838206466,512,0⟩,⟨9444732965739290427392,73786976294838206528,512,0⟩,⟨18889465931478580854784,14240886424903773847552,98816,1⟩,⟨37778931862957161709568,18963252907773419061248,131584,2⟩,⟨75557863725914323419136,40213902080686822522880,279040,0⟩,⟨151115727451828646838272,75631650702209161625600,524800,1⟩,⟨302231454903657293676544,151198737800160339820544,1049152,0⟩,⟨604462909807314587353088,302240678275694148452352,2097216,0⟩]
  | _=>[]
theorem enter_225:Ent 225 Tryz.f225 pl_225 [.tmp 4] 80:=ent tb_225 Tryz.func225 Tryz.results225 Tryz.ntmps225 (by kernel_rfl)
def pl_226 (n:Nat):Plan:=
  match n with
  | 4=>.one 0 <| .one 1 <| .one 2 <| .one 3 <| .one 4 <| .one 5 <| .one 6 <| .one 7 <| .one 8 <| .one 9 <| .one 10 <| .one 11 <| .one 12 <| .one 13 <| .one 14 <| .one 15 <| .one 16 <| .one 17 <| .one 18 <| .one 19 <| .one 20 <| .one 21 <| .one 22 <| .one 23 <| .one 24 <| .done
  | _=>.done
@[go_sem] theorem plan_226_4:pl_226 4=(.one 0 <| .one 1 <| .one 2 <| .one 3 <| .one 4 <| .one 5 <| .one 6 <| .one 7 <| .one 8 <| .one 9 <| .one 10 <| .one 11 <| .one 12 <| .one 13 <| .one 14 <| .one 15 <| .one 16 <| .one 17 <| .one 18 <| .one 19 <| .one 20 <| .one 21 <| .one 22 <| .one 23 <| .one 24 <| .done):=id rfl
def tb_226 (n:Nat):List Row:=
  match n with
  | 4=>[⟨1024,1,0,0⟩,⟨2048,8,0,0⟩,⟨4096,3072,3,1⟩,⟨8192,4096,4,2⟩,⟨16384,8192,8,0⟩,⟨32768,16384,16,0⟩,⟨65536,32768,48,0⟩,⟨131072,65544,64,0⟩,⟨262144,196608,192,1⟩,⟨524288,327680,320,0⟩,⟨1048576,524289,512,0⟩,⟨2097152,524296,512,0⟩,⟨4194304,2621440,2560,1⟩,⟨8388608,5767168,5632,1⟩,⟨16777216,8912896,8704,1⟩,⟨33554432,17301504,16896,2⟩,⟨67108864,524289,512,0⟩,⟨134217728,524296,512,0⟩,⟨268435456,201850880,197120,1⟩,⟨536870912,268959744,262656,1⟩,⟨1073741824,537395200,524800,2⟩,⟨2147483648,1107820544,1081856,0⟩,⟨4294967296,2148007936,2097664,1⟩,⟨8589934592,4295557120,4194880,0⟩,⟨17179869184,8590000128,8388672,0⟩]
  | _=>[]
theorem enter_226:Ent 226 Tryz.f226 pl_226 [.tmp 2] 35:=ent tb_226 Tryz.func226 Tryz.results226 Tryz.ntmps226 (by kernel_rfl)
theorem enter_228:Ent 228 Tryz.f228 pl0 [.tmp 2] 23:=ent tb0 Tryz.func228 Tryz.results228 Tryz.ntmps228 (by kernel_rfl)
theorem enter_229:Ent 229 Tryz.f229 pl0 [.cell 4 170] 46:=ent tb0 Tryz.func229 Tryz.results229 Tryz.ntmps229 (by kernel_rfl)
theorem enter_230:Ent 230 Tryz.f230 pl0 [.tmp 2] 28:=ent tb0 Tryz.func230 Tryz.results230 Tryz.ntmps230 (by kernel_rfl)
theorem enter_231:Ent 231 Tryz.f231 pl0 [.cell 2 163] 21:=ent tb0 Tryz.func231 Tryz.results231 Tryz.ntmps231 (by kernel_rfl)
theorem enter_232:Ent 232 Tryz.f232 pl0 [.cell 4 163] 10:=ent tb0 Tryz.func232 Tryz.results232 Tryz.ntmps232 (by kernel_rfl)
end Go.Proofs.YtgglehcchdkbdaaGreat
namespace Go.Proofs.YtgglehcchdkbdaaGreat
open Go Go.Eng
set_option maxRecDepth 20000
variable [Toks]
theorem enter_253:Ent 253 Tryz.f253 pl0 [.tmp 2] 18:=ent tb0 Tryz.func253 Tryz.results253 Tryz.ntmps253 (by kernel_rfl)
theorem enter_254:Ent 254 Tryz.f254 pl0 [.tmp 6] 52:=ent tb0 Tryz.func254 Tryz.results254 Tryz.ntmps254 (by kernel_rfl)
theorem enter_263:Ent 263 Tryz.f263 pl0 [.tmp 2] 23:=ent tb0 Tryz.func263 Tryz.results263 Tryz.ntmps263 (by kernel_rfl)
theorem enter_264:Ent 264 Tryz.f264 pl0 [.tmp 2] 45:=ent tb0 Tryz.func264 Tryz.results264 Tryz.ntmps264 (by kernel_rfl)
theorem enter_265:Ent 265 Tryz.f265 pl0 [.tmp 2] 12:=ent tb0 Tryz.func265 Tryz.results265 Tryz.ntmps265 (by kernel_rfl)
theorem enter_272:Ent 272 Tryz.f272 pl0 [.tmp 2] 26:=ent tb0 Tryz.func272 Tryz.results272 Tryz.ntmps272 (by kernel_rfl)
def pl_273 (n:Nat):Plan:=
  match n with
  | 2=>.one 0 <| .one 1 <| .one 2 <| .one 3 <| .one 4 <| .one 5 <| .one 6 <| .one 7 <| .one 8 <| .one 9 <| .one 10 <| .one 11 <| .one 12 <| .one 13 <| .one 14 <| .one 15 <| .done
  | _=>.done
@[go_sem] theorem plan_273_2:pl_273 2=(.one 0 <| .one 1 <| .one 2 <| .one 3 <| .one 4 <| .one 5 <| .one 6 <| .one 7 <| .one 8 <| .one 9 <| .one 10 <| .one 11 <| .one 12 <| .one 13 <| .one 14 <| .one 15 <| .done):=id rfl
def tb_273 (n:Nat):List Row:=
  match n with
  | 2=>[⟨2048,64,0,0⟩,⟨4096,64,0,0⟩,⟨8192,4,0,2⟩,⟨16384,8192,4,1⟩,⟨32768,20480,10,1⟩,⟨65536,32768,16,0⟩,⟨131072,65540,32,2⟩,⟨262144,65600,32,0⟩,⟨524288,458752,224,1⟩,⟨1048576,589824,288,1⟩,⟨2097152,1114112,544,2⟩,⟨4194304,65544,32,2⟩,⟨8388608,6356992,3104,1⟩,⟨16777216,8454144,4128,0⟩,⟨16,2048,33,0⟩,⟨32,16777216,32767,0⟩]
  | _=>[]
theorem enter_273:Ent 273 Tryz.f273 pl_273 [.tmp 4,.tmp 5] 25:=ent tb_273 Tryz.func273 Tryz.results273 Tryz.ntmps273 (by kernel_rfl)
theorem enter_274:Ent 274 Tryz.f274 pl0 [.tmp 2] 18:=ent tb0 Tryz.func274 Tryz.results274 Tryz.ntmps274 (by kernel_rfl)
theorem enter_275:Ent 275 Tryz.f275 pl0 [.tmp 2] 11:=ent tb0 Tryz.func275 Tryz.results275 Tryz.ntmps275 (by kernel_rfl)
theorem enter_280:Ent 280 Tryz.f280 pl0 [.tmp 2] 39:=ent tb0 Tryz.func280 Tryz.results280 Tryz.ntmps280 (by kernel_rfl)
theorem enter_281:Ent 281 Tryz.f281 pl0 [.tmp 4] 26:=ent tb0 Tryz.func281 Tryz.results281 Tryz.ntmps281 (by kernel_rfl)
def pl_282 (n:Nat):Plan:=
  match n with
  | 1=>.one 0 <| .one 1 <| .one 2 <| .one 3 <| .one 4 <| .one 5 <| .one 6 <| .one 7 <| .one 8 <| .done
  | _=>.done
@[go_sem] theorem plan_282_1:pl_282 1=(.one 0 <| .one 1 <| .one 2 <| .one 3 <| .one 4 <| .one 5 <| .one 6 <| .one 7 <| .one 8 <| .done):=id rfl
def tb_282 (n:Nat):List Row:=
  match n with
  | 1=>[⟨32,2,0,2⟩,⟨64,1,0,0⟩,⟨128,96,3,1⟩,⟨256,128,4,1⟩,⟨512,256,8,2⟩,⟨1024,4,0,2⟩,⟨2048,1536,48,0⟩,⟨4096,2048,64,1⟩,⟨16,4096,255,0⟩]
  | _=>[]
theorem enter_282:Ent 282 Tryz.f282 pl_282 [.tmp 4] 13:=ent tb_282 Tryz.func282 Tryz.results282 Tryz.ntmps282 (by kernel_rfl)
def pl_283 (n:Nat):Plan:=
  match n with
  | 1=>.one 0 <| .one 1 <| .one 2 <| .one 3 <| .one 4 <| .one 5 <| .done
  | _=>.done
@[go_sem] theorem plan_283_1:pl_283 1=(.one 0 <| .one 1 <| .one 2 <| .one 3 <| .one 4 <| .one 5 <| .done):=id rfl
def tb_283 (n:Nat):List Row:=
  match n with
  | 1=>[⟨32,4,0,2⟩,⟨64,32,1,0⟩,⟨128,8,0,2⟩,⟨256,128,6,0⟩,⟨512,320,10,0⟩,⟨16,512,31,0⟩]
  | _=>[]
theorem enter_283:Ent 283 Tryz.f283 pl_283 [.tmp 4] 10:=ent tb_283 Tryz.func283 Tryz.results283 Tryz.ntmps283 (by kernel_rfl)
def pl_287 (n:Nat):Plan:=
  match n with
  | 4=>.one 0 <| .one 1 <| .one 2 <| .one 3 <| .one 4 <| .one 5 <| .alt 6 [] (.done) <| .none
  | _=>.done
@[go_sem] theorem plan_287_4:pl_287 4=(.one 0 <| .one 1 <| .one 2 <| .one 3 <| .one 4 <| .one 5 <| .alt 6 [] (.done) <| .none):=id rfl
def tb_287 (n:Nat):List Row:=
  match n with
  | 4=>[⟨32768,8,0,1⟩,⟨65536,2,0,1⟩,⟨131072,65536,2,2⟩,⟨262144,163840,5,1⟩,⟨524288,2,0,1⟩,⟨1048576,524288,16,1⟩,⟨2097152,1310720,40,5⟩]
  | _=>[]
theorem enter_287:Ent 287 Tryz.f287 pl_287 [.tmp 2] 25:=ent tb_287 Tryz.func287 Tryz.results287 Tryz.ntmps287 (by kernel_rfl)
def pl_288 (n:Nat):Plan:=
  match n with
  | 1=>.one 0 <| .one 1 <| .one 2 <| .one 3 <| .one 4 <| .one 5 <| .one 6 <| .one 7 <| .one 8 <| .one 9 <| .one 10 <| .one 11 <| .one 12 <| .one 13 <| .one 14 <| .one 15 <| .one 16 <| .one 17 <| .done
  | _=>.done
@[go_sem] theorem plan_288_1:pl_288 1=(.one 0 <| .one 1 <| .one 2 <| .one 3 <| .one 4 <| .one 5 <| .one 6 <| .one 7 <| .one 8 <| .one 9 <| .one 10 <| .one 11 <| .one 12 <| .one 13 <| .one 14 <| .one 15 <| .one 16 <| .one 17 <| .done):=id rfl
def tb_288 (n:Nat):List Row:=
  match n with
  | 1=>[⟨8,2,0,1⟩,⟨16,8,1,2⟩,⟨32,16,2,1⟩,⟨64,32,4,0⟩,⟨128,66,8,1⟩,⟨256,192,24,2⟩,⟨512,320,40,1⟩,⟨1024,576,72,0⟩,⟨2048,1024,136,0⟩,⟨4096,2050,256,1⟩,⟨8192,2050,256,1⟩,⟨16384,10240,1280,2⟩,⟨32768,22528,2816,1⟩,⟨65536,34816,4352,2⟩,⟨131072,2050,256,2⟩,⟨262144,198656,24832,1⟩,⟨524288,264192,33024,0⟩,⟨4,524288,131071,0⟩]
  | _=>[]
theorem enter_288:Ent 288 Tryz.f288 pl_288 [.tmp 2] 20:=ent tb_288 Tryz.func288 Tryz.results288 Tryz.ntmps288 (by kernel_rfl)
theorem enter_290:Ent 290 Tryz.f290 pl0 [.tmp 2] 11:=ent tb0 Tryz.func290 Tryz.results290 Tryz.ntmps290 (by kernel_rfl)
theorem enter_294:Ent 294 Tryz.f294 pl0 [.cell 2 163] 12:=ent tb0 Tryz.func294 Tryz.results294 Tryz.ntmps294 (by kernel_rfl)
end Go.Proofs.YtgglehcchdkbdaaGreat
namespace Go.Proofs.YtgglehcchdkbdaaGreat
open Go Go.Eng
set_option maxRecDepth 20000
variable [Toks]
theorem enter_320:Ent 320 Tryz.f320 pl0 [.tmp 2] 6:=ent tb0 Tryz.func320 Tryz.results320 Tryz.ntmps320 (by kernel_rfl)
theorem enter_321:Ent 321 Tryz.f321 pl0 [.tmp 2] 20:=ent tb0 Tryz.func321 Tryz.results321 Tryz.ntmps321 (by kernel_rfl)
def pl_322 (n:Nat):Plan:=
  match n with
  | 4=>.one 0 <| .one 1 <| .one 2 <| .one 3 <| .one 4 <| .one 5 <| .one 6 <| .one 7 <| .one 8 <| .one 9 <| .one 10 <| .one 11 <| .one 12 <| .one 13 <| .one 14 <| .one 15 <| .one 16 <| .one 17 <| .one 18 <| .one 19 <| .one 20 <| .one 21 <| .one 22 <| .one 23 <| .one 24 <| .one 25 <| .done
  | _=>.done
@[go_sem] theorem plan_322_4:pl_322 4=(.one 0 <| .one 1 <| .one 2 <| .one 3 <| .one 4 <| .one 5 <| .one 6 <| .one 7 <| .one 8 <| .one 9 <| .one 10 <| .one 11 <| .one 12 <| .one 13 <| .one 14 <| .one 15 <| .one 16 <| .one 17 <| .one 18 <| .one 19 <| .one 20 <| .one 21 <| .one 22 <| .one 23 <| .one 24 <| .one 25 <| .done):=id rfl
def tb_322 (n:Nat):List Row:=
  match n with
  | 4=>[⟨4096,16,0,1⟩,⟨8192,4096,1,2⟩,⟨16384,8192,2,0⟩,⟨32768,16384,4,0⟩,⟨65536,32768,12,0⟩,⟨131072,65552,16,1⟩,⟨262144,196608,48,2⟩,⟨524288,327680,80,0⟩,⟨1048576,589824,144,0⟩,⟨2097152,1114112,272,0⟩,⟨4194304,2097152,640,0⟩,⟨8388608,4194312,1024,0⟩,⟨16777216,12582912,3072,1⟩,⟨33554432,20971520,5120,0⟩,⟨67108864,33554433,8192,0⟩,⟨134217728,33554440,8192,0⟩,⟨268435456,167772160,40960,1⟩,⟨536870912,369098752,90112,1⟩,⟨1073741824,570425344,139264,1⟩,⟨2147483648,1107296256,270336,2⟩,⟨4294967296,33554448,8192,1⟩,⟨8589934592,4328521728,1056768,2⟩,⟨17179869184,10770972672,2629632,0⟩,⟨34359738368,17213423616,4202496,1⟩,⟨68719476736,34397487104,8397824,0⟩,⟨137438953472,68723671040,16778240,0⟩]
  | _=>[]
theorem enter_322:Ent 322 Tryz.f322 pl_322 [.tmp 2] 39:=ent tb_322 Tryz.func322 Tryz.results322 Tryz.ntmps322 (by kernel_rfl)
theorem enter_323:Ent 323 Tryz.f323 pl0 [.tmp 2] 6:=ent tb0 Tryz.func323 Tryz.results323 Tryz.ntmps323 (by kernel_rfl)
theorem enter_324:Ent 324 Tryz.f324 pl0 [.tmp 2] 19:=ent tb0 Tryz.func324 Tryz.results324 Tryz.ntmps324 (by kernel_rfl)
def pl_325 (n:Nat):Plan:=
  match n with
  | 12=>.one 0 <| .one 1 <| .one 2 <| .one 3 <| .one 4 <| .one 5 <| .one 6 <| .one 7 <| .one 8 <| .one 9 <| .one 10 <| .one 11 <| .one 12 <| .one 13 <| .one 14 <| .one 15 <| .one 16 <| .done
  | _=>.done
@[go_sem] theorem plan_325_12:pl_325 12=(.one 0 <| .one 1 <| .one 2 <| .one 3 <| .one 4 <| .one 5 <| .one 6 <| .one 7 <| .one 8 <| .one 9 <| .one 10 <| .one 11 <| .one 12 <| .one 13 <| .one 14 <| .one 15 <| .one 16 <| .done):=id rfl
def tb_325 (n:Nat):List Row:=
  match n with
  | 12=>[⟨9007199254740992,256,0,2⟩,⟨18014398509481984,9007199254740992,1,0⟩,⟨36028797018963968,18014398509481984,2,0⟩,⟨72057594037927936,36028797018963968,6,0⟩,⟨144115188075855872,72057594037928064,8,0⟩,⟨288230376151711744,216172782113783808,24,1⟩,⟨576460752303423488,360287970189639680,40,0⟩,⟨1152921504606846976,576460752303423490,64,0⟩,⟨2305843009213693952,576460752303423616,64,0⟩,⟨4611686018427387904,2882303761517117440,320,1⟩,⟨9223372036854775808,6341068275337658368,704,1⟩,⟨18446744073709551616,9799832789158199296,1088,2⟩,⟨36893488147419103232,576460752303423744,64,2⟩,⟨73786976294838206464,55916692973432078336,6208,0⟩,⟨147573952589676412928,74363437047141629952,8256,1⟩,⟨295147905179352825856,148222470936017764352,16456,0⟩,⟨590295810358705651712,295219962773390753792,32776,0⟩]
  | _=>[]
theorem enter_325:Ent 325 Tryz.f325 pl_325 [.tmp 4] 71:=ent tb_325 Tryz.func325 Tryz.results325 Tryz.ntmps325 (by kernel_rfl)
def pl_326 (n:Nat):Plan:=
  match n with
  | 4=>.one 0 <| .one 1 <| .one 2 <| .one 3 <| .one 4 <| .one 5 <| .one 6 <| .one 7 <| .one 8 <| .one 9 <| .one 10 <| .one 11 <| .one 12 <| .one 13 <| .one 14 <| .one 15 <| .one 16 <| .one 17 <| .one 18 <| .done
  | _=>.done
@[go_sem] theorem plan_326_4:pl_326 4=(.one 0 <| .one 1 <| .one 2 <| .one 3 <| .one 4 <| .one 5 <| .one 6 <| .one 7 <| .one 8 <| .one 9 <| .one 10 <| .one 11 <| .one 12 <| .one 13 <| .one 14 <| .one 15 <| .one 16 <| .one 17 <| .one 18 <| .done):=id rfl
def tb_326 (n:Nat):List Row:=
  match n with
  | 4=>[⟨4096,16,0,2⟩,⟨8192,4096,1,0⟩,⟨16384,8192,2,0⟩,⟨32768,16384,6,0⟩,⟨65536,32776,8,0⟩,⟨131072,98304,24,1⟩,⟨262144,163840,40,0⟩,⟨524288,262145,64,0⟩,⟨1048576,262152,64,0⟩,⟨2097152,1310720,320,1⟩,⟨4194304,2883584,704,1⟩,⟨8388608,4456448,1088,1⟩,⟨16777216,8650752,2112,2⟩,⟨33554432,262160,64,1⟩,⟨67108864,33816576,8256,2⟩,⟨134217728,84148224,20544,0⟩,⟨268435456,134479872,32832,1⟩,⟨536870912,268730368,65608,0⟩,⟨1073741824,536903680,131080,0⟩]
  | _=>[]
theorem enter_326:Ent 326 Tryz.f326 pl_326 [.tmp 2] 32:=ent tb_326 Tryz.func326 Tryz.results326 Tryz.ntmps326 (by kernel_rfl)
end Go.Proofs.YtgglehcchdkbdaaGreat
