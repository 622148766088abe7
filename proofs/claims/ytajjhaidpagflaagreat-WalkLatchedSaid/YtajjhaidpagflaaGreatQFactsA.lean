/-
Facts of the program, printed by a program of mine: walks.
Facts of the program, printed by a program of mine: walks.
Facts of the program, printed by a program of mine: walks.
Facts of the program, printed by a program of mine: walks.
Facts of the program, printed by a program of mine: walks.
Facts of the program, printed by a program of mine: walks.
Facts of the program, printed by a program of mine: walks.
Facts of the program, printed by a program of mine: walks.
All facts of the program's text.
No conditions.
-/
import Derived.Test.YtajjhaidpagflaaGreatQFactsT
import Derived.Test.YtajjhaidpagflaaGreatQEngW
set_option linter.unusedSectionVars false
set_option linter.unusedSimpArgs false
set_option linter.unusedVariables false
namespace Go.Proofs.YtajjhaidpagflaaGreat
open Go Go.Eng
set_option maxRecDepth 20000
variable [Toks]
theorem enter_19:Ent 19 Tryz.f19 pl0 [.tmp 4] 15:=ent tb0 Tryz.func19 Tryz.results19 Tryz.ntmps19 (by kernel_rfl)
theorem enter_92:Ent 92 Tryz.f92 pl0 [.tmp 2] 8:=ent tb0 Tryz.func92 Tryz.results92 Tryz.ntmps92 (by kernel_rfl)
theorem enter_141:Ent 141 Tryz.f141 pl0 [.tmp 2] 8:=ent tb0 Tryz.func141 Tryz.results141 Tryz.ntmps141 (by kernel_rfl)
theorem enter_152:Ent 152 Tryz.f152 pl0 [.tmp 2] 8:=ent tb0 Tryz.func152 Tryz.results152 Tryz.ntmps152 (by kernel_rfl)
theorem enter_153:Ent 153 Tryz.f153 pl0 [.tmp 2] 8:=ent tb0 Tryz.func153 Tryz.results153 Tryz.ntmps153 (by kernel_rfl)
theorem enter_154:Ent 154 Tryz.f154 pl0 [.tmp 2] 8:=ent tb0 Tryz.func154 Tryz.results154 Tryz.ntmps154 (by kernel_rfl)
theorem enter_155:Ent 155 Tryz.f155 pl0 [.tmp 2] 8:=ent tb0 Tryz.func155 Tryz.results155 Tryz.ntmps155 (by kernel_rfl)
theorem enter_203:Ent 203 Tryz.f203 pl0 [.tmp 2] 5:=ent tb0 Tryz.func203 Tryz.results203 Tryz.ntmps203 (by kernel_rfl)
theorem enter_209:Ent 209 Tryz.f209 pl0 [.tmp 4] 8:=ent tb0 Tryz.func209 Tryz.results209 Tryz.ntmps209 (by kernel_rfl)
theorem enter_242:Ent 242 Tryz.f242 pl0 [.tmp 4] 30:=ent tb0 Tryz.func242 Tryz.results242 Tryz.ntmps242 (by kernel_rfl)
theorem enter_259:Ent 259 Tryz.f259 pl0 [.cell 0 289] 26:=ent tb0 Tryz.func259 Tryz.results259 Tryz.ntmps259 (by kernel_rfl)
end Go.Proofs.YtajjhaidpagflaaGreat
namespace Go.Proofs.YtajjhaidpagflaaGreat
open Go Go.Eng
set_option maxRecDepth 20000
variable [Toks]
theorem enter_5:Ent 5 Tryz.f5 pl0 [.cell 2 29] 93:=ent tb0 Tryz.func5 Tryz.results5 Tryz.ntmps5 (by kernel_rfl)
theorem enter_23:Ent 23 Tryz.f23 pl0 [.cell 2 29,.tmp 3] 27:=ent tb0 Tryz.func23 Tryz.results23 Tryz.ntmps23 (by kernel_rfl)
theorem enter_25:Ent 25 Tryz.f25 pl0 [.tmp 4] 19:=ent tb0 Tryz.func25 Tryz.results25 Tryz.ntmps25 (by kernel_rfl)
def pl_26 (n:Nat):Plan:=
  match n with
  | 5=>.one 0 <| .one 1 <| .one 2 <| .one 3 <| .one 4 <| .one 5 <| .one 6 <| .done
  | _=>.done
@[go_sem] theorem plan_26_5:pl_26 5=(.one 0 <| .one 1 <| .one 2 <| .one 3 <| .one 4 <| .one 5 <| .one 6 <| .done):=id rfl
def tb_26 (n:Nat):List Row:=
  match n with
  | 5=>[⟨8192,1,0,0⟩,⟨16384,64,0,0⟩,⟨32768,24576,3,1⟩,⟨65536,32768,4,2⟩,⟨131072,8,0,2⟩,⟨262144,196608,24,0⟩,⟨524288,262144,32,1⟩]
  | _=>[]
theorem enter_26:Ent 26 Tryz.f26 pl_26 [.tmp 4] 23:=ent tb_26 Tryz.func26 Tryz.results26 Tryz.ntmps26 (by kernel_rfl)
def pl_41 (n:Nat):Plan:=
  match n with
  | 4=>.one 0 <| .one 1 <| .one 2 <| .one 3 <| .one 4 <| .one 5 <| .one 6 <| .done
  | _=>.done
@[go_sem] theorem plan_41_4:pl_41 4=(.one 0 <| .one 1 <| .one 2 <| .one 3 <| .one 4 <| .one 5 <| .one 6 <| .done):=id rfl
def tb_41 (n:Nat):List Row:=
  match n with
  | 4=>[⟨8192,1,0,0⟩,⟨16384,64,0,0⟩,⟨32768,24576,3,1⟩,⟨65536,32768,4,1⟩,⟨131072,65536,8,2⟩,⟨262144,8,0,2⟩,⟨524288,393216,48,1⟩]
  | _=>[]
theorem enter_41:Ent 41 Tryz.f41 pl_41 [.cell 4 44,.tmp 5] 26:=ent tb_41 Tryz.func41 Tryz.results41 Tryz.ntmps41 (by kernel_rfl)
def pl_42 (n:Nat):Plan:=
  match n with
  | 4=>.one 0 <| .one 1 <| .one 2 <| .one 3 <| .one 4 <| .one 5 <| .one 6 <| .done
  | _=>.done
@[go_sem] theorem plan_42_4:pl_42 4=(.one 0 <| .one 1 <| .one 2 <| .one 3 <| .one 4 <| .one 5 <| .one 6 <| .done):=id rfl
def tb_42 (n:Nat):List Row:=
  match n with
  | 4=>[⟨8192,1,0,0⟩,⟨16384,64,0,0⟩,⟨32768,24576,3,1⟩,⟨65536,32768,4,1⟩,⟨131072,65536,8,2⟩,⟨262144,8,0,2⟩,⟨524288,393216,48,1⟩]
  | _=>[]
theorem enter_42:Ent 42 Tryz.f42 pl_42 [.cell 4 81,.tmp 5] 25:=ent tb_42 Tryz.func42 Tryz.results42 Tryz.ntmps42 (by kernel_rfl)
theorem enter_43:Ent 43 Tryz.f43 pl0 [.cell 6 44,.tmp 7] 26:=ent tb0 Tryz.func43 Tryz.results43 Tryz.ntmps43 (by kernel_rfl)
end Go.Proofs.YtajjhaidpagflaaGreat
namespace Go.Proofs.YtajjhaidpagflaaGreat
open Go Go.Eng
set_option maxRecDepth 20000
variable [Toks]
def pl_48 (n:Nat):Plan:=
  match n with
  | 6=>.one 0 <| .one 1 <| .one 2 <| .one 3 <| .one 4 <| .one 5 <| .one 6 <| .alt 7 [] (.one 8 <| .one 9 <| .alt 10 [] (.done) <| .none) <| .none
  | _=>.done
theorem enter_59:Ent 59 Tryz.f59 pl0 [.tmp 4] 38:=ent tb0 Tryz.func59 Tryz.results59 Tryz.ntmps59 (by kernel_rfl)
theorem enter_60:Ent 60 Tryz.f60 pl0 [.tmp 6] 32:=ent tb0 Tryz.func60 Tryz.results60 Tryz.ntmps60 (by kernel_rfl)
def pl_62 (n:Nat):Plan:=
  match n with
  | 6=>.one 0 <| .one 1 <| .one 2 <| .one 3 <| .one 4 <| .one 5 <| .one 6 <| .one 7 <| .one 8 <| .one 9 <| .one 10 <| .one 11 <| .one 12 <| .one 13 <| .one 14 <| .one 15 <| .one 16 <| .done
  | _=>.done
@[go_sem] theorem plan_62_6:pl_62 6=(.one 0 <| .one 1 <| .one 2 <| .one 3 <| .one 4 <| .one 5 <| .one 6 <| .one 7 <| .one 8 <| .one 9 <| .one 10 <| .one 11 <| .one 12 <| .one 13 <| .one 14 <| .one 15 <| .one 16 <| .done):=id rfl
def tb_62 (n:Nat):List Row:=
  match n with
  | 6=>[⟨4096,16,0,0⟩,⟨8192,4096,1,1⟩,⟨16384,1,0,0⟩,⟨32768,32,0,0⟩,⟨65536,49152,12,1⟩,⟨131072,65536,16,1⟩,⟨262144,131072,32,1⟩,⟨524288,262144,64,2⟩,⟨1048576,532480,130,1⟩,⟨2097152,1,0,0⟩,⟨4194304,32,0,0⟩,⟨8388608,6291456,1536,1⟩,⟨16777216,8388608,2048,1⟩,⟨33554432,16777216,4096,1⟩,⟨67108864,33554432,8192,2⟩,⟨134217728,68157440,16640,1⟩,⟨16,134217728,65535,0⟩]
  | _=>[]
theorem enter_62:Ent 62 Tryz.f62 pl_62 [.tmp 2] 38:=ent tb_62 Tryz.func62 Tryz.results62 Tryz.ntmps62 (by kernel_rfl)
def pl_69 (n:Nat):Plan:=
  match n with
  | 10=>.one 0 <| .one 1 <| .one 2 <| .one 3 <| .one 4 <| .one 5 <| .one 6 <| .one 7 <| .one 8 <| .one 9 <| .done
  | 12=>.one 0 <| .one 1 <| .one 2 <| .one 3 <| .one 4 <| .one 5 <| .one 6 <| .one 7 <| .one 8 <| .one 9 <| .done
  | _=>.done
@[go_sem] theorem plan_69_10:pl_69 10=(.one 0 <| .one 1 <| .one 2 <| .one 3 <| .one 4 <| .one 5 <| .one 6 <| .one 7 <| .one 8 <| .one 9 <| .done):=id rfl
@[go_sem] theorem plan_69_12:pl_69 12=(.one 0 <| .one 1 <| .one 2 <| .one 3 <| .one 4 <| .one 5 <| .one 6 <| .one 7 <| .one 8 <| .one 9 <| .done):=id rfl
def tb_69 (n:Nat):List Row:=
  match n with
  | 10=>[⟨4294967296,32,0,0⟩,⟨8589934592,4,0,1⟩,⟨17179869184,12884901888,3,1⟩,⟨34359738368,17179869184,4,2⟩,⟨68719476736,32,0,0⟩,⟨137438953472,8,0,1⟩,⟨274877906944,206158430208,48,1⟩,⟨549755813888,274877906944,64,2⟩,⟨1099511627776,584115552256,136,1⟩,⟨2147483648,1099511627776,256,0⟩]
  | 12=>[⟨4398046511104,32,0,0⟩,⟨8796093022208,4,0,1⟩,⟨17592186044416,13194139533312,3,1⟩,⟨35184372088832,17592186044416,4,2⟩,⟨70368744177664,32,0,0⟩,⟨140737488355328,8,0,1⟩,⟨281474976710656,211106232532992,48,1⟩,⟨562949953421312,281474976710656,64,2⟩,⟨1125899906842624,598134325510144,136,1⟩,⟨2199023255552,1125899906842624,256,0⟩]
  | _=>[]
theorem enter_69:Ent 69 Tryz.f69 pl_69 [.tmp 4] 51:=ent tb_69 Tryz.func69 Tryz.results69 Tryz.ntmps69 (by kernel_rfl)
end Go.Proofs.YtajjhaidpagflaaGreat
namespace Go.Proofs.YtajjhaidpagflaaGreat
open Go Go.Eng
set_option maxRecDepth 20000
variable [Toks]
theorem enter_86:Ent 86 Tryz.f86 pl0 [.tmp 4] 22:=ent tb0 Tryz.func86 Tryz.results86 Tryz.ntmps86 (by kernel_rfl)
theorem enter_87:Ent 87 Tryz.f87 pl0 [.cell 4 81,.tmp 5] 21:=ent tb0 Tryz.func87 Tryz.results87 Tryz.ntmps87 (by kernel_rfl)
theorem enter_89:Ent 89 Tryz.f89 pl0 [.cell 4 44,.tmp 5] 22:=ent tb0 Tryz.func89 Tryz.results89 Tryz.ntmps89 (by kernel_rfl)
theorem enter_90:Ent 90 Tryz.f90 pl0 [.cell 6 44,.tmp 7] 24:=ent tb0 Tryz.func90 Tryz.results90 Tryz.ntmps90 (by kernel_rfl)
theorem enter_100:Ent 100 Tryz.f100 pl0 [.tmp 4] 19:=ent tb0 Tryz.func100 Tryz.results100 Tryz.ntmps100 (by kernel_rfl)
def pl_101 (n:Nat):Plan:=
  match n with
  | 5=>.one 0 <| .one 1 <| .one 2 <| .one 3 <| .one 4 <| .one 5 <| .alt 6 [] (.one 7 <| .done) <| .none
  | _=>.done
theorem enter_105:Ent 105 Tryz.f105 pl0 [.cell 2 44] 21:=ent tb0 Tryz.func105 Tryz.results105 Tryz.ntmps105 (by kernel_rfl)
theorem enter_106:Ent 106 Tryz.f106 pl0 [.cell 4 44] 10:=ent tb0 Tryz.func106 Tryz.results106 Tryz.ntmps106 (by kernel_rfl)
theorem enter_111:Ent 111 Tryz.f111 pl0 [.tmp 2] 23:=ent tb0 Tryz.func111 Tryz.results111 Tryz.ntmps111 (by kernel_rfl)
theorem enter_113:Ent 113 Tryz.f113 pl0 [.tmp 6] 33:=ent tb0 Tryz.func113 Tryz.results113 Tryz.ntmps113 (by kernel_rfl)
theorem enter_117:Ent 117 Tryz.f117 pl0 [.tmp 4] 33:=ent tb0 Tryz.func117 Tryz.results117 Tryz.ntmps117 (by kernel_rfl)
def pl_118 (n:Nat):Plan:=
  match n with
  | 8=>.one 0 <| .one 1 <| .one 2 <| .one 3 <| .one 4 <| .one 5 <| .one 6 <| .one 7 <| .one 8 <| .done
  | _=>.done
@[go_sem] theorem plan_118_8:pl_118 8=(.one 0 <| .one 1 <| .one 2 <| .one 3 <| .one 4 <| .one 5 <| .one 6 <| .one 7 <| .one 8 <| .done):=id rfl
def tb_118 (n:Nat):List Row:=
  match n with
  | 8=>[⟨8589934592,1,0,0⟩,⟨17179869184,2048,0,0⟩,⟨34359738368,25769803776,3,1⟩,⟨68719476736,34359738368,4,1⟩,⟨137438953472,68719476736,8,2⟩,⟨274877906944,8,0,1⟩,⟨549755813888,274877906944,32,2⟩,⟨1099511627776,687194767360,80,0⟩,⟨4096,1099511627776,255,0⟩]
  | _=>[]
theorem enter_118:Ent 118 Tryz.f118 pl_118 [.tmp 4] 77:=ent tb_118 Tryz.func118 Tryz.results118 Tryz.ntmps118 (by kernel_rfl)
theorem enter_119:Ent 119 Tryz.f119 pl0 [.cell 2 44] 38:=ent tb0 Tryz.func119 Tryz.results119 Tryz.ntmps119 (by kernel_rfl)
def pl_120 (n:Nat):Plan:=
  match n with
  | 5=>.one 0 <| .one 1 <| .one 2 <| .one 3 <| .one 4 <| .one 5 <| .one 6 <| .one 7 <| .one 8 <| .one 9 <| .one 10 <| .one 11 <| .one 12 <| .one 13 <| .one 14 <| .one 15 <| .one 16 <| .done
  | _=>.done
@[go_sem] theorem plan_120_5:pl_120 5=(.one 0 <| .one 1 <| .one 2 <| .one 3 <| .one 4 <| .one 5 <| .one 6 <| .one 7 <| .one 8 <| .one 9 <| .one 10 <| .one 11 <| .one 12 <| .one 13 <| .one 14 <| .one 15 <| .one 16 <| .done):=id rfl
def tb_120 (n:Nat):List Row:=
  match n with
  | 5=>[⟨2048,8,0,0⟩,⟨4096,2048,1,1⟩,⟨8192,1,0,0⟩,⟨16384,16,0,0⟩,⟨32768,24576,12,1⟩,⟨65536,32768,16,1⟩,⟨131072,65536,32,1⟩,⟨262144,131072,64,2⟩,⟨524288,266240,130,1⟩,⟨1048576,1,0,0⟩,⟨2097152,16,0,0⟩,⟨4194304,3145728,1536,1⟩,⟨8388608,4194304,2048,1⟩,⟨16777216,8388608,4096,1⟩,⟨33554432,16777216,8192,2⟩,⟨67108864,34078720,16640,1⟩,⟨8,67108864,65535,0⟩]
  | _=>[]
theorem enter_120:Ent 120 Tryz.f120 pl_120 [.tmp 2] 28:=ent tb_120 Tryz.func120 Tryz.results120 Tryz.ntmps120 (by kernel_rfl)
end Go.Proofs.YtajjhaidpagflaaGreat
namespace Go.Proofs.YtajjhaidpagflaaGreat
open Go Go.Eng
set_option maxRecDepth 20000
variable [Toks]
def pl_128 (n:Nat):Plan:=
  match n with
  | 1=>.one 0 <| .one 1 <| .one 2 <| .one 3 <| .one 4 <| .one 5 <| .one 6 <| .one 7 <| .one 8 <| .one 9 <| .one 10 <| .one 11 <| .one 12 <| .one 13 <| .one 14 <| .alt 15 [] (.one 16 <| .one 17 <| .done) <| .none
  | _=>.done
def pl_133 (n:Nat):Plan:=
  match n with
  | 2=>.one 0 <| .one 1 <| .one 2 <| .one 3 <| .one 4 <| .one 5 <| .one 6 <| .one 7 <| .one 8 <| .one 9 <| .one 10 <| .one 11 <| .one 12 <| .one 13 <| .one 14 <| .one 15 <| .one 16 <| .one 17 <| .one 18 <| .alt 19 [] (.one 20 <| .one 21 <| .done) <| .none
  | _=>.done
def pl_157 (n:Nat):Plan:=
  match n with
  | 1=>.one 0 <| .one 1 <| .one 2 <| .one 3 <| .one 4 <| .one 5 <| .done
  | _=>.done
@[go_sem] theorem plan_157_1:pl_157 1=(.one 0 <| .one 1 <| .one 2 <| .one 3 <| .one 4 <| .one 5 <| .done):=id rfl
def tb_157 (n:Nat):List Row:=
  match n with
  | 1=>[⟨32,4,0,2⟩,⟨64,32,1,0⟩,⟨128,8,0,2⟩,⟨256,128,6,0⟩,⟨512,320,10,0⟩,⟨16,512,31,0⟩]
  | _=>[]
theorem enter_157:Ent 157 Tryz.f157 pl_157 [.tmp 4] 10:=ent tb_157 Tryz.func157 Tryz.results157 Tryz.ntmps157 (by kernel_rfl)
def pl_158 (n:Nat):Plan:=
  match n with
  | 2=>.one 0 <| .one 1 <| .one 2 <| .one 3 <| .one 4 <| .one 5 <| .one 6 <| .one 7 <| .one 8 <| .one 9 <| .one 10 <| .one 11 <| .one 12 <| .one 13 <| .one 14 <| .one 15 <| .done
  | _=>.done
@[go_sem] theorem plan_158_2:pl_158 2=(.one 0 <| .one 1 <| .one 2 <| .one 3 <| .one 4 <| .one 5 <| .one 6 <| .one 7 <| .one 8 <| .one 9 <| .one 10 <| .one 11 <| .one 12 <| .one 13 <| .one 14 <| .one 15 <| .done):=id rfl
def tb_158 (n:Nat):List Row:=
  match n with
  | 2=>[⟨2048,64,0,0⟩,⟨4096,64,0,0⟩,⟨8192,4,0,2⟩,⟨16384,8192,4,1⟩,⟨32768,20480,10,1⟩,⟨65536,32768,16,0⟩,⟨131072,65540,32,2⟩,⟨262144,65600,32,0⟩,⟨524288,458752,224,1⟩,⟨1048576,589824,288,1⟩,⟨2097152,1114112,544,2⟩,⟨4194304,65544,32,2⟩,⟨8388608,6356992,3104,1⟩,⟨16777216,8454144,4128,0⟩,⟨16,2048,33,0⟩,⟨32,16777216,32767,0⟩]
  | _=>[]
theorem enter_158:Ent 158 Tryz.f158 pl_158 [.tmp 4,.tmp 5] 25:=ent tb_158 Tryz.func158 Tryz.results158 Tryz.ntmps158 (by kernel_rfl)
theorem enter_159:Ent 159 Tryz.f159 pl0 [.cell 4 44] 10:=ent tb0 Tryz.func159 Tryz.results159 Tryz.ntmps159 (by kernel_rfl)
def pl_160 (n:Nat):Plan:=
  match n with
  | 3=>.one 0 <| .one 1 <| .one 2 <| .one 3 <| .one 4 <| .one 5 <| .one 6 <| .one 7 <| .done
  | 4=>.one 0 <| .one 1 <| .one 2 <| .one 3 <| .one 4 <| .one 5 <| .one 6 <| .one 7 <| .done
  | 8=>.one 0 <| .one 1 <| .one 2 <| .one 3 <| .one 4 <| .one 5 <| .one 6 <| .one 7 <| .one 8 <| .one 9 <| .one 10 <| .one 11 <| .one 12 <| .one 13 <| .one 14 <| .one 15 <| .done
  | _=>.done
@[go_sem] theorem plan_160_3:pl_160 3=(.one 0 <| .one 1 <| .one 2 <| .one 3 <| .one 4 <| .one 5 <| .one 6 <| .one 7 <| .done):=id rfl
@[go_sem] theorem plan_160_4:pl_160 4=(.one 0 <| .one 1 <| .one 2 <| .one 3 <| .one 4 <| .one 5 <| .one 6 <| .one 7 <| .done):=id rfl
@[go_sem] theorem plan_160_8:pl_160 8=(.one 0 <| .one 1 <| .one 2 <| .one 3 <| .one 4 <| .one 5 <| .one 6 <| .one 7 <| .one 8 <| .one 9 <| .one 10 <| .one 11 <| .one 12 <| .one 13 <| .one 14 <| .one 15 <| .done):=id rfl
def tb_160 (n:Nat):List Row:=
  match n with
  | 3=>[⟨262144,64,0,1⟩,⟨524288,262144,1,2⟩,⟨1048576,64,0,1⟩,⟨2097152,1048576,4,2⟩,⟨4194304,2621440,10,1⟩,⟨8388608,4194304,16,1⟩,⟨128,0,0,0⟩,⟨256,8388608,127,0⟩]
  | 4=>[⟨16777216,1,0,0⟩,⟨33554432,256,0,0⟩,⟨67108864,50331648,3,1⟩,⟨134217728,67108864,4,1⟩,⟨268435456,134217728,8,2⟩,⟨536870912,8,0,2⟩,⟨1073741824,805306368,48,0⟩,⟨2147483648,1073741824,64,1⟩]
  | 8=>[⟨549755813888,512,0,0⟩,⟨1099511627776,512,0,0⟩,⟨2199023255552,1,0,0⟩,⟨4398046511104,2199023255552,4,1⟩,⟨8796093022208,5497558138880,10,1⟩,⟨17592186044416,8796093022208,16,0⟩,⟨35184372088832,17592186044417,32,0⟩,⟨70368744177664,17592186044928,32,0⟩,⟨140737488355328,123145302310912,224,1⟩,⟨281474976710656,158329674399744,288,1⟩,⟨562949953421312,299067162755072,544,2⟩,⟨1125899906842624,17592186044424,32,2⟩,⟨2251799813685248,1706442046308352,3104,1⟩,⟨4503599627370496,2269391999729664,4128,0⟩,⟨16,549755813888,33,0⟩,⟨32,4503599627370496,32767,0⟩]
  | _=>[]
theorem enter_160:Ent 160 Tryz.f160 pl_160 [.tmp 4,.tmp 5] 53:=ent tb_160 Tryz.func160 Tryz.results160 Tryz.ntmps160 (by kernel_rfl)
theorem enter_164:Ent 164 Tryz.f164 pl0 [.tmp 2] 12:=ent tb0 Tryz.func164 Tryz.results164 Tryz.ntmps164 (by kernel_rfl)
theorem enter_165:Ent 165 Tryz.f165 pl0 [.tmp 2] 20:=ent tb0 Tryz.func165 Tryz.results165 Tryz.ntmps165 (by kernel_rfl)
theorem enter_167:Ent 167 Tryz.f167 pl0 [.tmp 2] 42:=ent tb0 Tryz.func167 Tryz.results167 Tryz.ntmps167 (by kernel_rfl)
theorem enter_168:Ent 168 Tryz.f168 pl0 [.tmp 2] 11:=ent tb0 Tryz.func168 Tryz.results168 Tryz.ntmps168 (by kernel_rfl)
end Go.Proofs.YtajjhaidpagflaaGreat
namespace Go.Proofs.YtajjhaidpagflaaGreat
open Go Go.Eng
set_option maxRecDepth 20000
variable [Toks]
def pl_170 (n:Nat):Plan:=
  match n with
  | 7=>.one 0 <| .one 1 <| .one 2 <| .one 3 <| .one 4 <| .one 5 <| .one 6 <| .one 7 <| .one 8 <| .one 9 <| .one 10 <| .one 11 <| .one 12 <| .one 13 <| .one 14 <| .one 15 <| .done
  | 9=>.one 0 <| .one 1 <| .one 2 <| .one 3 <| .one 4 <| .one 5 <| .one 6 <| .one 7 <| .one 8 <| .one 9 <| .one 10 <| .one 11 <| .one 12 <| .one 13 <| .one 14 <| .done
  | 11=>.one 0 <| .one 1 <| .one 2 <| .one 3 <| .one 5 <| .one 6 <| .one 11 <| .one 12 <| .one 7 <| .one 8 <| .one 9 <| .one 13 <| .alt 4 [13,8,7] (.alt 10 [13] (.alt 14 [] (.one 15 <| .done) <| .none) <| .none) <| .none
  | _=>.done
@[go_sem] theorem plan_170_7:pl_170 7=(.one 0 <| .one 1 <| .one 2 <| .one 3 <| .one 4 <| .one 5 <| .one 6 <| .one 7 <| .one 8 <| .one 9 <| .one 10 <| .one 11 <| .one 12 <| .one 13 <| .one 14 <| .one 15 <| .done):=id rfl
@[go_sem] theorem plan_170_9:pl_170 9=(.one 0 <| .one 1 <| .one 2 <| .one 3 <| .one 4 <| .one 5 <| .one 6 <| .one 7 <| .one 8 <| .one 9 <| .one 10 <| .one 11 <| .one 12 <| .one 13 <| .one 14 <| .done):=id rfl
@[go_sem] theorem plan_170_11:pl_170 11=(.one 0 <| .one 1 <| .one 2 <| .one 3 <| .one 5 <| .one 6 <| .one 11 <| .one 12 <| .one 7 <| .one 8 <| .one 9 <| .one 13 <| .alt 4 [13,8,7] (.alt 10 [13] (.alt 14 [] (.one 15 <| .done) <| .none) <| .none) <| .none):=id rfl
def tb_170 (n:Nat):List Row:=
  match n with
  | 7=>[⟨524288,32,0,0⟩,⟨1048576,8,0,0⟩,⟨2097152,1048576,2,1⟩,⟨4194304,2621440,5,1⟩,⟨8388608,4194304,8,0⟩,⟨16777216,8388616,16,0⟩,⟨33554432,8388640,16,0⟩,⟨67108864,58720256,112,1⟩,⟨134217728,75497472,144,2⟩,⟨268435456,8388609,16,0⟩,⟨536870912,8388624,16,0⟩,⟨1073741824,813694976,1552,1⟩,⟨2147483648,1082130432,2064,2⟩,⟨4294967296,2290089984,4368,0⟩,⟨8589934592,4303355904,8208,1⟩,⟨17179869184,8598323200,16400,0⟩]
  | 9=>[⟨137438953472,32,0,0⟩,⟨274877906944,8,0,0⟩,⟨549755813888,274877906944,2,1⟩,⟨1099511627776,687194767360,5,1⟩,⟨2199023255552,1099511627776,8,0⟩,⟨4398046511104,2199023255560,16,0⟩,⟨8796093022208,2199023255584,16,0⟩,⟨17592186044416,15393162788864,112,1⟩,⟨35184372088832,19791209299968,144,2⟩,⟨70368744177664,2199023255553,16,0⟩,⟨140737488355328,2199023255568,16,0⟩,⟨281474976710656,213305255788544,1552,1⟩,⟨562949953421312,283673999966208,2064,2⟩,⟨1125899906842624,600333348765696,4368,1⟩,⟨2251799813685248,1128098930098176,8208,0⟩]
  | 11=>[⟨4503599627370496,64,0,0⟩,⟨9007199254740992,8,0,0⟩,⟨18014398509481984,32,0,0⟩,⟨36028797018963968,27021597764222976,6,1⟩,⟨72057594037927936,40532396646334464,9,5⟩,⟨144115188075855872,1,0,0⟩,⟨288230376151711744,16,0,0⟩,⟨576460752303423488,432345564227567616,96,1⟩,⟨1152921504606846976,576460752303423488,128,2⟩,⟨2305843009213693952,1152921504606846976,256,0⟩,⟨4611686018427387904,2377900603251621888,528,5⟩,⟨9223372036854775808,8,0,0⟩,⟨18446744073709551616,32,0,0⟩,⟨36893488147419103232,27670116110564327424,6144,1⟩,⟨73786976294838206464,41505174165846491136,9216,5⟩,⟨64,73786976294838206464,32767,0⟩]
  | _=>[]
theorem enter_170:Ent 170 Tryz.f170 pl_170 [.tmp 2] 69:=ent tb_170 Tryz.func170 Tryz.results170 Tryz.ntmps170 (by kernel_rfl)
def pl_171 (n:Nat):Plan:=
  match n with
  | 6=>.one 0 <| .one 1 <| .one 2 <| .one 3 <| .one 4 <| .one 5 <| .one 6 <| .one 7 <| .one 8 <| .done
  | 8=>.one 0 <| .one 1 <| .one 2 <| .one 3 <| .one 4 <| .one 5 <| .one 6 <| .one 7 <| .alt 8 [] (.one 9 <| .done) <| .none
  | _=>.done
@[go_sem] theorem plan_171_6:pl_171 6=(.one 0 <| .one 1 <| .one 2 <| .one 3 <| .one 4 <| .one 5 <| .one 6 <| .one 7 <| .one 8 <| .done):=id rfl
@[go_sem] theorem plan_171_8:pl_171 8=(.one 0 <| .one 1 <| .one 2 <| .one 3 <| .one 4 <| .one 5 <| .one 6 <| .one 7 <| .alt 8 [] (.one 9 <| .done) <| .none):=id rfl
def tb_171 (n:Nat):List Row:=
  match n with
  | 6=>[⟨32768,1,0,0⟩,⟨65536,128,0,0⟩,⟨131072,98304,3,1⟩,⟨262144,131072,4,1⟩,⟨524288,262144,8,2⟩,⟨1048576,8,0,1⟩,⟨2097152,1048576,32,2⟩,⟨4194304,2621440,80,0⟩,⟨256,4194304,255,0⟩]
  | 8=>[⟨33554432,32,0,0⟩,⟨67108864,1,0,0⟩,⟨134217728,128,0,0⟩,⟨268435456,201326592,6,1⟩,⟨536870912,268435456,8,2⟩,⟨1073741824,8,0,2⟩,⟨2147483648,1610612736,48,0⟩,⟨4294967296,2147483648,64,0⟩,⟨8589934592,4328521728,193,5⟩,⟨32,8589934592,511,0⟩]
  | _=>[]
theorem enter_171:Ent 171 Tryz.f171 pl_171 [.tmp 4] 58:=ent tb_171 Tryz.func171 Tryz.results171 Tryz.ntmps171 (by kernel_rfl)
theorem enter_172:Ent 172 Tryz.f172 pl0 [.cell 4 81] 35:=ent tb0 Tryz.func172 Tryz.results172 Tryz.ntmps172 (by kernel_rfl)
theorem enter_173:Ent 173 Tryz.f173 pl0 [.tmp 2] 19:=ent tb0 Tryz.func173 Tryz.results173 Tryz.ntmps173 (by kernel_rfl)
theorem enter_174:Ent 174 Tryz.f174 pl0 [.cell 2 44,.tmp 3] 27:=ent tb0 Tryz.func174 Tryz.results174 Tryz.ntmps174 (by kernel_rfl)
theorem enter_200:Ent 200 Tryz.f200 pl0 [.tmp 6,.tmp 7] 45:=ent tb0 Tryz.func200 Tryz.results200 Tryz.ntmps200 (by kernel_rfl)
theorem enter_202:Ent 202 Tryz.f202 pl0 [.tmp 6] 26:=ent tb0 Tryz.func202 Tryz.results202 Tryz.ntmps202 (by kernel_rfl)
theorem enter_210:Ent 210 Tryz.f210 pl0 [.tmp 2] 11:=ent tb0 Tryz.func210 Tryz.results210 Tryz.ntmps210 (by kernel_rfl)
theorem enter_211:Ent 211 Tryz.f211 pl0 [.tmp 4] 26:=ent tb0 Tryz.func211 Tryz.results211 Tryz.ntmps211 (by kernel_rfl)
end Go.Proofs.YtajjhaidpagflaaGreat
namespace Go.Proofs.YtajjhaidpagflaaGreat
open Go Go.Eng
set_option maxRecDepth 20000
variable [Toks]
def pl_212 (n:Nat):Plan:=
  match n with
  | 1=>.one 0 <| .one 1 <| .one 2 <| .one 3 <| .one 4 <| .one 5 <| .one 6 <| .one 7 <| .one 8 <| .done
  | _=>.done
@[go_sem] theorem plan_212_1:pl_212 1=(.one 0 <| .one 1 <| .one 2 <| .one 3 <| .one 4 <| .one 5 <| .one 6 <| .one 7 <| .one 8 <| .done):=id rfl
def tb_212 (n:Nat):List Row:=
  match n with
  | 1=>[⟨32,2,0,2⟩,⟨64,1,0,0⟩,⟨128,96,3,1⟩,⟨256,128,4,1⟩,⟨512,256,8,2⟩,⟨1024,4,0,2⟩,⟨2048,1536,48,0⟩,⟨4096,2048,64,1⟩,⟨16,4096,255,0⟩]
  | _=>[]
theorem enter_212:Ent 212 Tryz.f212 pl_212 [.tmp 4] 13:=ent tb_212 Tryz.func212 Tryz.results212 Tryz.ntmps212 (by kernel_rfl)
theorem enter_213:Ent 213 Tryz.f213 pl0 [.cell 2 44] 6:=ent tb0 Tryz.func213 Tryz.results213 Tryz.ntmps213 (by kernel_rfl)
theorem enter_214:Ent 214 Tryz.f214 pl0 [.tmp 2] 12:=ent tb0 Tryz.func214 Tryz.results214 Tryz.ntmps214 (by kernel_rfl)
theorem enter_215:Ent 215 Tryz.f215 pl0 [.tmp 2] 9:=ent tb0 Tryz.func215 Tryz.results215 Tryz.ntmps215 (by kernel_rfl)
theorem enter_216:Ent 216 Tryz.f216 pl0 [.tmp 2] 6:=ent tb0 Tryz.func216 Tryz.results216 Tryz.ntmps216 (by kernel_rfl)
theorem enter_217:Ent 217 Tryz.f217 pl0 [.tmp 2] 6:=ent tb0 Tryz.func217 Tryz.results217 Tryz.ntmps217 (by kernel_rfl)
def pl_219 (n:Nat):Plan:=
  match n with
  | 4=>.one 0 <| .one 1 <| .one 2 <| .one 3 <| .one 4 <| .one 5 <| .one 6 <| .one 7 <| .one 8 <| .one 9 <| .one 10 <| .one 11 <| .one 12 <| .one 13 <| .one 14 <| .one 15 <| .one 16 <| .one 17 <| .one 18 <| .one 19 <| .one 20 <| .one 21 <| .one 22 <| .one 23 <| .one 24 <| .one 25 <| .one 26 <| .one 27 <| .one 28 <| .one 29 <| .one 30 <| .one 31 <| .one 32 <| .one 33 <| .one 34 <| .done
  | _=>.done
@[go_sem] theorem plan_219_4:pl_219 4=(.one 0 <| .one 1 <| .one 2 <| .one 3 <| .one 4 <| .one 5 <| .one 6 <| .one 7 <| .one 8 <| .one 9 <| .one 10 <| .one 11 <| .one 12 <| .one 13 <| .one 14 <| .one 15 <| .one 16 <| .one 17 <| .one 18 <| .one 19 <| .one 20 <| .one 21 <| .one 22 <| .one 23 <| .one 24 <| .one 25 <| .one 26 <| .one 27 <| .one 28 <| .one 29 <| .one 30 <| .one 31 <| .one 32 <| .one 33 <| .one 34 <| .done):=id rfl
def tb_219 (n:Nat):List Row:=
  match n with
  | 4=>[⟨1024,1,0,0⟩,⟨2048,8,0,0⟩,⟨4096,3072,3,1⟩,⟨8192,4096,4,1⟩,⟨16384,8192,8,2⟩,⟨32768,16384,16,0⟩,⟨65536,32768,32,0⟩,⟨131072,65536,96,0⟩,⟨262144,131073,128,0⟩,⟨524288,131080,128,0⟩,⟨1048576,917504,896,1⟩,⟨2097152,1179648,1152,1⟩,⟨4194304,2228224,2176,2⟩,⟨8388608,4325376,4224,0⟩,⟨16777216,8519680,8320,0⟩,⟨33554432,16908288,16512,0⟩,⟨67108864,33554432,40960,0⟩,⟨134217728,67108872,65536,0⟩,⟨268435456,201326592,196608,1⟩,⟨536870912,335544320,327680,0⟩,⟨1073741824,536870913,524288,0⟩,⟨2147483648,536870920,524288,0⟩,⟨4294967296,2684354560,2621440,1⟩,⟨8589934592,5905580032,5767168,1⟩,⟨17179869184,9126805504,8912896,1⟩,⟨34359738368,17716740096,17301504,2⟩,⟨68719476736,536870913,524288,0⟩,⟨137438953472,536870920,524288,0⟩,⟨274877906944,206695301120,201850880,1⟩,⟨549755813888,275414777856,268959744,1⟩,⟨1099511627776,550292684800,537395200,2⟩,⟨2199023255552,1134408237056,1107820544,0⟩,⟨4398046511104,2199560126464,2148007936,1⟩,⟨8796093022208,4398650490880,4295557120,0⟩,⟨17592186044416,8796160131072,8590000128,0⟩]
  | _=>[]
theorem enter_219:Ent 219 Tryz.f219 pl_219 [.tmp 2] 45:=ent tb_219 Tryz.func219 Tryz.results219 Tryz.ntmps219 (by kernel_rfl)
def pl_220 (n:Nat):Plan:=
  match n with
  | 11=>.one 0 <| .one 1 <| .one 2 <| .one 3 <| .one 4 <| .one 5 <| .one 6 <| .one 7 <| .one 8 <| .one 9 <| .one 10 <| .one 11 <| .one 12 <| .one 13 <| .one 14 <| .one 15 <| .one 16 <| .one 17 <| .one 18 <| .one 19 <| .one 20 <| .one 21 <| .one 22 <| .done
  | _=>.done
@[go_sem] theorem plan_220_11:pl_220 11=(.one 0 <| .one 1 <| .one 2 <| .one 3 <| .one 4 <| .one 5 <| .one 6 <| .one 7 <| .one 8 <| .one 9 <| .one 10 <| .one 11 <| .one 12 <| .one 13 <| .one 14 <| .one 15 <| .one 16 <| .one 17 <| .one 18 <| .one 19 <| .one 20 <| .one 21 <| .one 22 <| .done):=id rfl
def tb_220 (n:Nat):List Row:=
  match n with
  | 11=>[⟨144115188075855872,2,0,0⟩,⟨288230376151711744,64,0,0⟩,⟨576460752303423488,432345564227567616,3,1⟩,⟨1152921504606846976,576460752303423488,4,2⟩,⟨2305843009213693952,1152921504606846976,8,0⟩,⟨4611686018427387904,2305843009213693952,16,0⟩,⟨9223372036854775808,4611686018427387904,48,0⟩,⟨18446744073709551616,9223372036854775872,64,0⟩,⟨36893488147419103232,27670116110564327424,192,1⟩,⟨73786976294838206464,46116860184273879040,320,0⟩,⟨147573952589676412928,73786976294838206466,512,0⟩,⟨295147905179352825856,73786976294838206528,512,0⟩,⟨590295810358705651712,368934881474191032320,2560,1⟩,⟨1180591620717411303424,811656739243220271104,5632,1⟩,⟨2361183241434822606848,1254378597012249509888,8704,2⟩,⟨4722366482869645213696,73786976294838206466,512,0⟩,⟨9444732965739290427392,73786976294838206528,512,0⟩,⟨18889465931478580854784,14240886424903773847552,98816,1⟩,⟨37778931862957161709568,18963252907773419061248,131584,2⟩,⟨75557863725914323419136,40213902080686822522880,279040,0⟩,⟨151115727451828646838272,75631650702209161625600,524800,1⟩,⟨302231454903657293676544,151198737800160339820544,1049152,0⟩,⟨604462909807314587353088,302240678275694148452352,2097216,0⟩]
  | _=>[]
theorem enter_220:Ent 220 Tryz.f220 pl_220 [.tmp 4] 80:=ent tb_220 Tryz.func220 Tryz.results220 Tryz.ntmps220 (by kernel_rfl)
def pl_221 (n:Nat):Plan:=
  match n with
  | 4=>.one 0 <| .one 1 <| .one 2 <| .one 3 <| .one 4 <| .one 5 <| .one 6 <| .one 7 <| .one 8 <| .one 9 <| .one 10 <| .one 11 <| .one 12 <| .one 13 <| .one 14 <| .one 15 <| .one 16 <| .one 17 <| .one 18 <| .one 19 <| .one 20 <| .one 21 <| .one 22 <| .one 23 <| .one 24 <| .done
  | _=>.done
@[go_sem] theorem plan_221_4:pl_221 4=(.one 0 <| .one 1 <| .one 2 <| .one 3 <| .one 4 <| .one 5 <| .one 6 <| .one 7 <| .one 8 <| .one 9 <| .one 10 <| .one 11 <| .one 12 <| .one 13 <| .one 14 <| .one 15 <| .one 16 <| .one 17 <| .one 18 <| .one 19 <| .one 20 <| .one 21 <| .one 22 <| .one 23 <| .one 24 <| .done):=id rfl
def tb_221 (n:Nat):List Row:=
  match n with
  | 4=>[⟨1024,1,0,0⟩,⟨2048,8,0,0⟩,⟨4096,3072,3,1⟩,⟨8192,4096,4,2⟩,⟨16384,8192,8,0⟩,⟨32768,16384,16,0⟩,⟨65536,32768,48,0⟩,⟨131072,65544,64,0⟩,⟨262144,196608,192,1⟩,⟨524288,327680,320,0⟩,⟨1048576,524289,512,0⟩,⟨2097152,524296,512,0⟩,⟨4194304,2621440,2560,1⟩,⟨8388608,5767168,5632,1⟩,⟨16777216,8912896,8704,1⟩,⟨33554432,17301504,16896,2⟩,⟨67108864,524289,512,0⟩,⟨134217728,524296,512,0⟩,⟨268435456,201850880,197120,1⟩,⟨536870912,268959744,262656,1⟩,⟨1073741824,537395200,524800,2⟩,⟨2147483648,1107820544,1081856,0⟩,⟨4294967296,2148007936,2097664,1⟩,⟨8589934592,4295557120,4194880,0⟩,⟨17179869184,8590000128,8388672,0⟩]
  | _=>[]
theorem enter_221:Ent 221 Tryz.f221 pl_221 [.tmp 2] 35:=ent tb_221 Tryz.func221 Tryz.results221 Tryz.ntmps221 (by kernel_rfl)
theorem enter_223:Ent 223 Tryz.f223 pl0 [.tmp 2] 23:=ent tb0 Tryz.func223 Tryz.results223 Tryz.ntmps223 (by kernel_rfl)
theorem enter_224:Ent 224 Tryz.f224 pl0 [.cell 4 81] 46:=ent tb0 Tryz.func224 Tryz.results224 Tryz.ntmps224 (by kernel_rfl)
theorem enter_225:Ent 225 Tryz.f225 pl0 [.tmp 2] 28:=ent tb0 Tryz.func225 Tryz.results225 Tryz.ntmps225 (by kernel_rfl)
theorem enter_241:Ent 241 Tryz.f241 pl0 [.tmp 2] 9:=ent tb0 Tryz.func241 Tryz.results241 Tryz.ntmps241 (by kernel_rfl)
theorem enter_243:Ent 243 Tryz.f243 pl0 [.tmp 6,.tmp 7] 42:=ent tb0 Tryz.func243 Tryz.results243 Tryz.ntmps243 (by kernel_rfl)
def pl_249 (n:Nat):Plan:=
  match n with
  | 4=>.one 0 <| .one 1 <| .one 2 <| .one 3 <| .one 4 <| .one 5 <| .alt 6 [] (.done) <| .none
  | _=>.done
@[go_sem] theorem plan_249_4:pl_249 4=(.one 0 <| .one 1 <| .one 2 <| .one 3 <| .one 4 <| .one 5 <| .alt 6 [] (.done) <| .none):=id rfl
def tb_249 (n:Nat):List Row:=
  match n with
  | 4=>[⟨32768,8,0,1⟩,⟨65536,2,0,1⟩,⟨131072,65536,2,2⟩,⟨262144,163840,5,1⟩,⟨524288,2,0,1⟩,⟨1048576,524288,16,1⟩,⟨2097152,1310720,40,5⟩]
  | _=>[]
theorem enter_249:Ent 249 Tryz.f249 pl_249 [.tmp 2] 25:=ent tb_249 Tryz.func249 Tryz.results249 Tryz.ntmps249 (by kernel_rfl)
theorem enter_250:Ent 250 Tryz.f250 pl0 [.cell 2 44] 12:=ent tb0 Tryz.func250 Tryz.results250 Tryz.ntmps250 (by kernel_rfl)
theorem enter_251:Ent 251 Tryz.f251 pl0 [.tmp 2] 23:=ent tb0 Tryz.func251 Tryz.results251 Tryz.ntmps251 (by kernel_rfl)
theorem enter_252:Ent 252 Tryz.f252 pl0 [.tmp 2] 45:=ent tb0 Tryz.func252 Tryz.results252 Tryz.ntmps252 (by kernel_rfl)
end Go.Proofs.YtajjhaidpagflaaGreat
namespace Go.Proofs.YtajjhaidpagflaaGreat
open Go Go.Eng
set_option maxRecDepth 20000
variable [Toks]
theorem enter_284:Ent 284 Tryz.f284 pl0 [.tmp 2] 6:=ent tb0 Tryz.func284 Tryz.results284 Tryz.ntmps284 (by kernel_rfl)
theorem enter_285:Ent 285 Tryz.f285 pl0 [.tmp 2] 20:=ent tb0 Tryz.func285 Tryz.results285 Tryz.ntmps285 (by kernel_rfl)
theorem enter_286:Ent 286 Tryz.f286 pl0 [.tmp 2] 18:=ent tb0 Tryz.func286 Tryz.results286 Tryz.ntmps286 (by kernel_rfl)
def pl_287 (n:Nat):Plan:=
  match n with
  | 4=>.one 0 <| .one 1 <| .one 2 <| .one 3 <| .one 4 <| .one 5 <| .one 6 <| .one 7 <| .one 8 <| .one 9 <| .one 10 <| .one 11 <| .one 12 <| .one 13 <| .one 14 <| .one 15 <| .one 16 <| .one 17 <| .one 18 <| .one 19 <| .one 20 <| .one 21 <| .one 22 <| .one 23 <| .one 24 <| .one 25 <| .done
  | _=>.done
@[go_sem] theorem plan_287_4:pl_287 4=(.one 0 <| .one 1 <| .one 2 <| .one 3 <| .one 4 <| .one 5 <| .one 6 <| .one 7 <| .one 8 <| .one 9 <| .one 10 <| .one 11 <| .one 12 <| .one 13 <| .one 14 <| .one 15 <| .one 16 <| .one 17 <| .one 18 <| .one 19 <| .one 20 <| .one 21 <| .one 22 <| .one 23 <| .one 24 <| .one 25 <| .done):=id rfl
def tb_287 (n:Nat):List Row:=
  match n with
  | 4=>[⟨4096,16,0,1⟩,⟨8192,4096,1,2⟩,⟨16384,8192,2,0⟩,⟨32768,16384,4,0⟩,⟨65536,32768,12,0⟩,⟨131072,65552,16,1⟩,⟨262144,196608,48,2⟩,⟨524288,327680,80,0⟩,⟨1048576,589824,144,0⟩,⟨2097152,1114112,272,0⟩,⟨4194304,2097152,640,0⟩,⟨8388608,4194312,1024,0⟩,⟨16777216,12582912,3072,1⟩,⟨33554432,20971520,5120,0⟩,⟨67108864,33554433,8192,0⟩,⟨134217728,33554440,8192,0⟩,⟨268435456,167772160,40960,1⟩,⟨536870912,369098752,90112,1⟩,⟨1073741824,570425344,139264,1⟩,⟨2147483648,1107296256,270336,2⟩,⟨4294967296,33554448,8192,1⟩,⟨8589934592,4328521728,1056768,2⟩,⟨17179869184,10770972672,2629632,0⟩,⟨34359738368,17213423616,4202496,1⟩,⟨68719476736,34397487104,8397824,0⟩,⟨137438953472,68723671040,16778240,0⟩]
  | _=>[]
theorem enter_287:Ent 287 Tryz.f287 pl_287 [.tmp 2] 39:=ent tb_287 Tryz.func287 Tryz.results287 Tryz.ntmps287 (by kernel_rfl)
theorem enter_288:Ent 288 Tryz.f288 pl0 [.tmp 2] 11:=ent tb0 Tryz.func288 Tryz.results288 Tryz.ntmps288 (by kernel_rfl)
def pl_289 (n:Nat):Plan:=
  match n with
  | 1=>.one 0 <| .one 1 <| .one 2 <| .one 3 <| .one 4 <| .one 5 <| .one 6 <| .one 7 <| .one 8 <| .one 9 <| .one 10 <| .one 11 <| .one 12 <| .one 13 <| .one 14 <| .one 15 <| .one 16 <| .one 17 <| .done
  | _=>.done
@[go_sem] theorem plan_289_1:pl_289 1=(.one 0 <| .one 1 <| .one 2 <| .one 3 <| .one 4 <| .one 5 <| .one 6 <| .one 7 <| .one 8 <| .one 9 <| .one 10 <| .one 11 <| .one 12 <| .one 13 <| .one 14 <| .one 15 <| .one 16 <| .one 17 <| .done):=id rfl
def tb_289 (n:Nat):List Row:=
  match n with
  | 1=>[⟨8,2,0,1⟩,⟨16,8,1,2⟩,⟨32,16,2,1⟩,⟨64,32,4,0⟩,⟨128,66,8,1⟩,⟨256,192,24,2⟩,⟨512,320,40,1⟩,⟨1024,576,72,0⟩,⟨2048,1024,136,0⟩,⟨4096,2050,256,1⟩,⟨8192,2050,256,1⟩,⟨16384,10240,1280,2⟩,⟨32768,22528,2816,1⟩,⟨65536,34816,4352,2⟩,⟨131072,2050,256,2⟩,⟨262144,198656,24832,1⟩,⟨524288,264192,33024,0⟩,⟨4,524288,131071,0⟩]
  | _=>[]
theorem enter_289:Ent 289 Tryz.f289 pl_289 [.tmp 2] 20:=ent tb_289 Tryz.func289 Tryz.results289 Tryz.ntmps289 (by kernel_rfl)
theorem enter_290:Ent 290 Tryz.f290 pl0 [.tmp 2] 6:=ent tb0 Tryz.func290 Tryz.results290 Tryz.ntmps290 (by kernel_rfl)
theorem enter_291:Ent 291 Tryz.f291 pl0 [.tmp 2] 19:=ent tb0 Tryz.func291 Tryz.results291 Tryz.ntmps291 (by kernel_rfl)
theorem enter_292:Ent 292 Tryz.f292 pl0 [.tmp 2] 18:=ent tb0 Tryz.func292 Tryz.results292 Tryz.ntmps292 (by kernel_rfl)
def pl_293 (n:Nat):Plan:=
  match n with
  | 12=>.one 0 <| .one 1 <| .one 2 <| .one 3 <| .one 4 <| .one 5 <| .one 6 <| .one 7 <| .one 8 <| .one 9 <| .one 10 <| .one 11 <| .one 12 <| .one 13 <| .one 14 <| .one 15 <| .one 16 <| .done
  | _=>.done
@[go_sem] theorem plan_293_12:pl_293 12=(.one 0 <| .one 1 <| .one 2 <| .one 3 <| .one 4 <| .one 5 <| .one 6 <| .one 7 <| .one 8 <| .one 9 <| .one 10 <| .one 11 <| .one 12 <| .one 13 <| .one 14 <| .one 15 <| .one 16 <| .done):=id rfl
def tb_293 (n:Nat):List Row:=
  match n with
  | 12=>[⟨9007199254740992,256,0,2⟩,⟨18014398509481984,9007199254740992,1,0⟩,⟨36028797018963968,18014398509481984,2,0⟩,⟨72057594037927936,36028797018963968,6,0⟩,⟨144115188075855872,72057594037928064,8,0⟩,⟨288230376151711744,216172782113783808,24,1⟩,⟨576460752303423488,360287970189639680,40,0⟩,⟨1152921504606846976,576460752303423490,64,0⟩,⟨2305843009213693952,576460752303423616,64,0⟩,⟨4611686018427387904,2882303761517117440,320,1⟩,⟨9223372036854775808,6341068275337658368,704,1⟩,⟨18446744073709551616,9799832789158199296,1088,2⟩,⟨36893488147419103232,576460752303423744,64,2⟩,⟨73786976294838206464,55916692973432078336,6208,0⟩,⟨147573952589676412928,74363437047141629952,8256,1⟩,⟨295147905179352825856,148222470936017764352,16456,0⟩,⟨590295810358705651712,295219962773390753792,32776,0⟩]
  | _=>[]
theorem enter_293:Ent 293 Tryz.f293 pl_293 [.tmp 4] 71:=ent tb_293 Tryz.func293 Tryz.results293 Tryz.ntmps293 (by kernel_rfl)
def pl_294 (n:Nat):Plan:=
  match n with
  | 4=>.one 0 <| .one 1 <| .one 2 <| .one 3 <| .one 4 <| .one 5 <| .one 6 <| .one 7 <| .one 8 <| .one 9 <| .one 10 <| .one 11 <| .one 12 <| .one 13 <| .one 14 <| .one 15 <| .one 16 <| .one 17 <| .one 18 <| .done
  | _=>.done
@[go_sem] theorem plan_294_4:pl_294 4=(.one 0 <| .one 1 <| .one 2 <| .one 3 <| .one 4 <| .one 5 <| .one 6 <| .one 7 <| .one 8 <| .one 9 <| .one 10 <| .one 11 <| .one 12 <| .one 13 <| .one 14 <| .one 15 <| .one 16 <| .one 17 <| .one 18 <| .done):=id rfl
def tb_294 (n:Nat):List Row:=
  match n with
  | 4=>[⟨4096,16,0,2⟩,⟨8192,4096,1,0⟩,⟨16384,8192,2,0⟩,⟨32768,16384,6,0⟩,⟨65536,32776,8,0⟩,⟨131072,98304,24,1⟩,⟨262144,163840,40,0⟩,⟨524288,262145,64,0⟩,⟨1048576,262152,64,0⟩,⟨2097152,1310720,320,1⟩,⟨4194304,2883584,704,1⟩,⟨8388608,4456448,1088,1⟩,⟨16777216,8650752,2112,2⟩,⟨33554432,262160,64,1⟩,⟨67108864,33816576,8256,2⟩,⟨134217728,84148224,20544,0⟩,⟨268435456,134479872,32832,1⟩,⟨536870912,268730368,65608,0⟩,⟨1073741824,536903680,131080,0⟩]
  | _=>[]
theorem enter_294:Ent 294 Tryz.f294 pl_294 [.tmp 2] 32:=ent tb_294 Tryz.func294 Tryz.results294 Tryz.ntmps294 (by kernel_rfl)
theorem enter_295:Ent 295 Tryz.f295 pl0 [.tmp 2] 26:=ent tb0 Tryz.func295 Tryz.results295 Tryz.ntmps295 (by kernel_rfl)
theorem enter_296:Ent 296 Tryz.f296 pl0 [.tmp 4] 8:=ent tb0 Tryz.func296 Tryz.results296 Tryz.ntmps296 (by kernel_rfl)
theorem enter_297:Ent 297 Tryz.f297 pl0 [.tmp 2] 39:=ent tb0 Tryz.func297 Tryz.results297 Tryz.ntmps297 (by kernel_rfl)
end Go.Proofs.YtajjhaidpagflaaGreat
