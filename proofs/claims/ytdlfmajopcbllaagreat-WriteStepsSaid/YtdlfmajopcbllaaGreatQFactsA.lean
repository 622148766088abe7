/-
Facts of the program, printed by a program of mine: walks.
Facts of the program, printed by a program of mine: walks.
Facts of the program, printed by a program of mine: walks.
Facts of the program, printed by a program of mine: walks.
Facts of the program, printed by a program of mine: walks.
Facts of the program, printed by a program of mine: walks.
Facts of the program, printed by a program of mine: walks.
Facts of the program, printed by a program of mine: walks.
Facts of the program, printed by a program of mine: walks.
Facts of the program, printed by a program of mine: walks.
All facts of the program's text.
No conditions.
-/
import Derived.Test.YtdlfmajopcbllaaGreatQFactsT
import Derived.Test.YtdlfmajopcbllaaGreatQEngW
set_option linter.unusedSectionVars false
set_option linter.unusedSimpArgs false
set_option linter.unusedVariables false
namespace Go.Proofs.YtdlfmajopcbllaaGreat
open Go Go.Eng
set_option maxRecDepth 20000
variable [Toks]
theorem enter_35:Ent 35 Tryz.f35 pl0 [.tmp 4] 15:=ent tb0 Tryz.func35 Tryz.results35 Tryz.ntmps35 (by kernel_rfl)
theorem enter_155:Ent 155 Tryz.f155 pl0 [.tmp 2] 8:=ent tb0 Tryz.func155 Tryz.results155 Tryz.ntmps155 (by kernel_rfl)
theorem enter_182:Ent 182 Tryz.f182 pl0 [.tmp 2] 8:=ent tb0 Tryz.func182 Tryz.results182 Tryz.ntmps182 (by kernel_rfl)
theorem enter_183:Ent 183 Tryz.f183 pl0 [.tmp 2] 8:=ent tb0 Tryz.func183 Tryz.results183 Tryz.ntmps183 (by kernel_rfl)
theorem enter_184:Ent 184 Tryz.f184 pl0 [.tmp 2] 8:=ent tb0 Tryz.func184 Tryz.results184 Tryz.ntmps184 (by kernel_rfl)
theorem enter_185:Ent 185 Tryz.f185 pl0 [.tmp 2] 8:=ent tb0 Tryz.func185 Tryz.results185 Tryz.ntmps185 (by kernel_rfl)
theorem enter_199:Ent 199 Tryz.f199 pl0 [.tmp 2] 8:=ent tb0 Tryz.func199 Tryz.results199 Tryz.ntmps199 (by kernel_rfl)
theorem enter_210:Ent 210 Tryz.f210 pl0 [.tmp 2] 8:=ent tb0 Tryz.func210 Tryz.results210 Tryz.ntmps210 (by kernel_rfl)
theorem enter_252:Ent 252 Tryz.f252 pl0 [.tmp 4] 8:=ent tb0 Tryz.func252 Tryz.results252 Tryz.ntmps252 (by kernel_rfl)
theorem enter_277:Ent 277 Tryz.f277 pl0 [.tmp 2] 5:=ent tb0 Tryz.func277 Tryz.results277 Tryz.ntmps277 (by kernel_rfl)
theorem enter_315:Ent 315 Tryz.f315 pl0 [.tmp 4] 30:=ent tb0 Tryz.func315 Tryz.results315 Tryz.ntmps315 (by kernel_rfl)
theorem enter_334:Ent 334 Tryz.f334 pl0 [.cell 0 353] 26:=ent tb0 Tryz.func334 Tryz.results334 Tryz.ntmps334 (by kernel_rfl)
end Go.Proofs.YtdlfmajopcbllaaGreat
namespace Go.Proofs.YtdlfmajopcbllaaGreat
open Go Go.Eng
set_option maxRecDepth 20000
variable [Toks]
theorem enter_10:Ent 10 Tryz.f10 pl0 [.cell 2 30] 93:=ent tb0 Tryz.func10 Tryz.results10 Tryz.ntmps10 (by kernel_rfl)
theorem enter_17:Ent 17 Tryz.f17 pl0 [.tmp 4] 19:=ent tb0 Tryz.func17 Tryz.results17 Tryz.ntmps17 (by kernel_rfl)
theorem enter_22:Ent 22 Tryz.f22 pl0 [.tmp 2] 11:=ent tb0 Tryz.func22 Tryz.results22 Tryz.ntmps22 (by kernel_rfl)
theorem enter_32:Ent 32 Tryz.f32 pl0 [.cell 4 65] 35:=ent tb0 Tryz.func32 Tryz.results32 Tryz.ntmps32 (by kernel_rfl)
theorem enter_40:Ent 40 Tryz.f40 pl0 [.cell 2 30,.tmp 3] 27:=ent tb0 Tryz.func40 Tryz.results40 Tryz.ntmps40 (by kernel_rfl)
def pl_41 (n:Nat):Plan:=
  match n with
  | 5=>.one 0 <| .one 1 <| .one 2 <| .one 3 <| .one 4 <| .one 5 <| .one 6 <| .done
  | _=>.done
@[go_sem] theorem plan_41_5:pl_41 5=(.one 0 <| .one 1 <| .one 2 <| .one 3 <| .one 4 <| .one 5 <| .one 6 <| .done):=id rfl
def tb_41 (n:Nat):List Row:=
  match n with
  | 5=>[⟨8192,1,0,0⟩,⟨16384,64,0,0⟩,⟨32768,24576,3,1⟩,⟨65536,32768,4,2⟩,⟨131072,8,0,2⟩,⟨262144,196608,24,0⟩,⟨524288,262144,32,1⟩]
  | _=>[]
theorem enter_41:Ent 41 Tryz.f41 pl_41 [.tmp 4] 23:=ent tb_41 Tryz.func41 Tryz.results41 Tryz.ntmps41 (by kernel_rfl)
end Go.Proofs.YtdlfmajopcbllaaGreat
namespace Go.Proofs.YtdlfmajopcbllaaGreat
open Go Go.Eng
set_option maxRecDepth 20000
variable [Toks]
def pl_49 (n:Nat):Plan:=
  match n with
  | 5=>.one 0 <| .one 1 <| .one 2 <| .one 3 <| .one 4 <| .one 5 <| .one 6 <| .one 7 <| .one 8 <| .one 9 <| .one 10 <| .one 11 <| .one 12 <| .one 13 <| .one 14 <| .one 15 <| .alt 16 [] (.one 17 <| .done) <| .none
  | _=>.done
def pl_55 (n:Nat):Plan:=
  match n with
  | 5=>.one 0 <| .one 1 <| .one 2 <| .one 3 <| .one 4 <| .one 5 <| .one 6 <| .one 7 <| .one 8 <| .one 9 <| .one 10 <| .one 11 <| .one 12 <| .one 13 <| .one 14 <| .one 15 <| .one 16 <| .done
  | _=>.done
@[go_sem] theorem plan_55_5:pl_55 5=(.one 0 <| .one 1 <| .one 2 <| .one 3 <| .one 4 <| .one 5 <| .one 6 <| .one 7 <| .one 8 <| .one 9 <| .one 10 <| .one 11 <| .one 12 <| .one 13 <| .one 14 <| .one 15 <| .one 16 <| .done):=id rfl
def tb_55 (n:Nat):List Row:=
  match n with
  | 5=>[⟨2048,8,0,0⟩,⟨4096,2048,1,1⟩,⟨8192,1,0,0⟩,⟨16384,16,0,0⟩,⟨32768,24576,12,1⟩,⟨65536,32768,16,1⟩,⟨131072,65536,32,1⟩,⟨262144,131072,64,2⟩,⟨524288,266240,130,1⟩,⟨1048576,1,0,0⟩,⟨2097152,16,0,0⟩,⟨4194304,3145728,1536,1⟩,⟨8388608,4194304,2048,1⟩,⟨16777216,8388608,4096,1⟩,⟨33554432,16777216,8192,2⟩,⟨67108864,34078720,16640,1⟩,⟨8,67108864,65535,0⟩]
  | _=>[]
theorem enter_55:Ent 55 Tryz.f55 pl_55 [.tmp 2] 28:=ent tb_55 Tryz.func55 Tryz.results55 Tryz.ntmps55 (by kernel_rfl)
theorem enter_56:Ent 56 Tryz.f56 pl0 [.tmp 2] 19:=ent tb0 Tryz.func56 Tryz.results56 Tryz.ntmps56 (by kernel_rfl)
theorem enter_66:Ent 66 Tryz.f66 pl0 [.cell 2 63] 38:=ent tb0 Tryz.func66 Tryz.results66 Tryz.ntmps66 (by kernel_rfl)
theorem enter_81:Ent 81 Tryz.f81 pl0 [.tmp 4] 38:=ent tb0 Tryz.func81 Tryz.results81 Tryz.ntmps81 (by kernel_rfl)
theorem enter_82:Ent 82 Tryz.f82 pl0 [.tmp 6] 32:=ent tb0 Tryz.func82 Tryz.results82 Tryz.ntmps82 (by kernel_rfl)
end Go.Proofs.YtdlfmajopcbllaaGreat
namespace Go.Proofs.YtdlfmajopcbllaaGreat
open Go Go.Eng
set_option maxRecDepth 20000
variable [Toks]
def pl_84 (n:Nat):Plan:=
  match n with
  | 6=>.one 0 <| .one 1 <| .one 2 <| .one 3 <| .one 4 <| .one 5 <| .one 6 <| .one 7 <| .one 8 <| .one 9 <| .one 10 <| .one 11 <| .one 12 <| .one 13 <| .one 14 <| .one 15 <| .one 16 <| .done
  | _=>.done
@[go_sem] theorem plan_84_6:pl_84 6=(.one 0 <| .one 1 <| .one 2 <| .one 3 <| .one 4 <| .one 5 <| .one 6 <| .one 7 <| .one 8 <| .one 9 <| .one 10 <| .one 11 <| .one 12 <| .one 13 <| .one 14 <| .one 15 <| .one 16 <| .done):=id rfl
def tb_84 (n:Nat):List Row:=
  match n with
  | 6=>[⟨4096,16,0,0⟩,⟨8192,4096,1,1⟩,⟨16384,1,0,0⟩,⟨32768,32,0,0⟩,⟨65536,49152,12,1⟩,⟨131072,65536,16,1⟩,⟨262144,131072,32,1⟩,⟨524288,262144,64,2⟩,⟨1048576,532480,130,1⟩,⟨2097152,1,0,0⟩,⟨4194304,32,0,0⟩,⟨8388608,6291456,1536,1⟩,⟨16777216,8388608,2048,1⟩,⟨33554432,16777216,4096,1⟩,⟨67108864,33554432,8192,2⟩,⟨134217728,68157440,16640,1⟩,⟨16,134217728,65535,0⟩]
  | _=>[]
theorem enter_84:Ent 84 Tryz.f84 pl_84 [.tmp 2] 38:=ent tb_84 Tryz.func84 Tryz.results84 Tryz.ntmps84 (by kernel_rfl)
def pl_90 (n:Nat):Plan:=
  match n with
  | 10=>.one 0 <| .one 1 <| .one 2 <| .one 3 <| .one 4 <| .one 5 <| .one 6 <| .one 7 <| .one 8 <| .one 9 <| .done
  | 12=>.one 0 <| .one 1 <| .one 2 <| .one 3 <| .one 4 <| .one 5 <| .one 6 <| .one 7 <| .one 8 <| .one 9 <| .done
  | _=>.done
@[go_sem] theorem plan_90_10:pl_90 10=(.one 0 <| .one 1 <| .one 2 <| .one 3 <| .one 4 <| .one 5 <| .one 6 <| .one 7 <| .one 8 <| .one 9 <| .done):=id rfl
@[go_sem] theorem plan_90_12:pl_90 12=(.one 0 <| .one 1 <| .one 2 <| .one 3 <| .one 4 <| .one 5 <| .one 6 <| .one 7 <| .one 8 <| .one 9 <| .done):=id rfl
def tb_90 (n:Nat):List Row:=
  match n with
  | 10=>[⟨4294967296,32,0,0⟩,⟨8589934592,4,0,1⟩,⟨17179869184,12884901888,3,1⟩,⟨34359738368,17179869184,4,2⟩,⟨68719476736,32,0,0⟩,⟨137438953472,8,0,1⟩,⟨274877906944,206158430208,48,1⟩,⟨549755813888,274877906944,64,2⟩,⟨1099511627776,584115552256,136,1⟩,⟨2147483648,1099511627776,256,0⟩]
  | 12=>[⟨4398046511104,32,0,0⟩,⟨8796093022208,4,0,1⟩,⟨17592186044416,13194139533312,3,1⟩,⟨35184372088832,17592186044416,4,2⟩,⟨70368744177664,32,0,0⟩,⟨140737488355328,8,0,1⟩,⟨281474976710656,211106232532992,48,1⟩,⟨562949953421312,281474976710656,64,2⟩,⟨1125899906842624,598134325510144,136,1⟩,⟨2199023255552,1125899906842624,256,0⟩]
  | _=>[]
theorem enter_90:Ent 90 Tryz.f90 pl_90 [.tmp 4] 51:=ent tb_90 Tryz.func90 Tryz.results90 Tryz.ntmps90 (by kernel_rfl)
theorem enter_105:Ent 105 Tryz.f105 pl0 [.cell 4 65] 41:=ent tb0 Tryz.func105 Tryz.results105 Tryz.ntmps105 (by kernel_rfl)
theorem enter_113:Ent 113 Tryz.f113 pl0 [.tmp 2] 6:=ent tb0 Tryz.func113 Tryz.results113 Tryz.ntmps113 (by kernel_rfl)
theorem enter_114:Ent 114 Tryz.f114 pl0 [.tmp 2] 28:=ent tb0 Tryz.func114 Tryz.results114 Tryz.ntmps114 (by kernel_rfl)
end Go.Proofs.YtdlfmajopcbllaaGreat
namespace Go.Proofs.YtdlfmajopcbllaaGreat
open Go Go.Eng
set_option maxRecDepth 20000
variable [Toks]
def pl_124 (n:Nat):Plan:=
  match n with
  | 7=>.one 0 <| .one 1 <| .one 2 <| .one 3 <| .one 4 <| .one 5 <| .alt 6 [5,3] (.alt 7 [5] (.alt 8 [] (.done) <| .none) <| .none) <| .none
  | 11=>.one 0 <| .one 1 <| .alt 2 [1] (.alt 3 [1] (.alt 4 [] (.done) <| .none) <| .none) <| .none
  | _=>.done
@[go_sem] theorem plan_124_7:pl_124 7=(.one 0 <| .one 1 <| .one 2 <| .one 3 <| .one 4 <| .one 5 <| .alt 6 [5,3] (.alt 7 [5] (.alt 8 [] (.done) <| .none) <| .none) <| .none):=id rfl
@[go_sem] theorem plan_124_11:pl_124 11=(.one 0 <| .one 1 <| .alt 2 [1] (.alt 3 [1] (.alt 4 [] (.done) <| .none) <| .none) <| .none):=id rfl
def tb_124 (n:Nat):List Row:=
  match n with
  | 7=>[⟨1073741824,1024,0,0⟩,⟨2147483648,1024,0,0⟩,⟨4294967296,2147483648,2,1⟩,⟨8589934592,512,0,2⟩,⟨17179869184,12884901888,12,1⟩,⟨34359738368,256,0,2⟩,⟨0,1073741888,1,4⟩,⟨0,17179869312,95,4⟩,⟨0,34359738624,255,4⟩]
  | 11=>[⟨1125899906842624,4,0,0⟩,⟨2251799813685248,256,0,2⟩,⟨0,64,0,4⟩,⟨0,1125899906842752,5,4⟩,⟨0,2251799813685504,15,4⟩]
  | _=>[]
def pl_126 (n:Nat):Plan:=
  match n with
  | 3=>.one 0 <| .one 1 <| .one 2 <| .one 3 <| .one 4 <| .done
  | 5=>.one 0 <| .one 1 <| .one 2 <| .one 3 <| .one 4 <| .done
  | 6=>.one 0 <| .one 1 <| .one 2 <| .one 3 <| .one 4 <| .one 5 <| .one 6 <| .one 7 <| .one 9 <| .alt 8 [9] (.alt 10 [] (.one 11 <| .done) <| .none) <| .none
  | 8=>.one 0 <| .one 1 <| .one 2 <| .one 3 <| .alt 4 [] (.done) <| .none
  | _=>.done
@[go_sem] theorem plan_126_3:pl_126 3=(.one 0 <| .one 1 <| .one 2 <| .one 3 <| .one 4 <| .done):=id rfl
@[go_sem] theorem plan_126_5:pl_126 5=(.one 0 <| .one 1 <| .one 2 <| .one 3 <| .one 4 <| .done):=id rfl
@[go_sem] theorem plan_126_6:pl_126 6=(.one 0 <| .one 1 <| .one 2 <| .one 3 <| .one 4 <| .one 5 <| .one 6 <| .one 7 <| .one 9 <| .alt 8 [9] (.alt 10 [] (.one 11 <| .done) <| .none) <| .none):=id rfl
@[go_sem] theorem plan_126_8:pl_126 8=(.one 0 <| .one 1 <| .one 2 <| .one 3 <| .alt 4 [] (.done) <| .none):=id rfl
def tb_126 (n:Nat):List Row:=
  match n with
  | 3=>[⟨1024,2,0,1⟩,⟨2048,1024,1,2⟩,⟨4096,2048,2,1⟩,⟨16,0,0,0⟩,⟨32,4096,15,0⟩]
  | 5=>[⟨32768,2,0,1⟩,⟨65536,32768,1,2⟩,⟨131072,65536,2,1⟩,⟨16,0,0,0⟩,⟨32,131072,15,0⟩]
  | 6=>[⟨262144,16,0,0⟩,⟨524288,32,0,0⟩,⟨1048576,524288,2,2⟩,⟨2097152,2,0,1⟩,⟨4194304,2097152,8,2⟩,⟨8388608,4194304,16,1⟩,⟨16777216,8388608,32,2⟩,⟨33554432,18087936,69,0⟩,⟨67108864,33554432,128,5⟩,⟨134217728,2,0,2⟩,⟨268435456,201326592,768,5⟩,⟨64,268435456,2047,0⟩]
  | 8=>[⟨17179869184,64,0,0⟩,⟨34359738368,17179869184,1,1⟩,⟨68719476736,64,0,0⟩,⟨137438953472,68719476736,4,2⟩,⟨274877906944,171798691840,10,5⟩]
  | _=>[]
theorem enter_126:Ent 126 Tryz.f126 pl_126 [.tmp 2,.tmp 3] 40:=ent tb_126 Tryz.func126 Tryz.results126 Tryz.ntmps126 (by kernel_rfl)
theorem enter_129:Ent 129 Tryz.f129 pl0 [.cell 2 63,.tmp 3] 27:=ent tb0 Tryz.func129 Tryz.results129 Tryz.ntmps129 (by kernel_rfl)
def pl_132 (n:Nat):Plan:=
  match n with
  | 5=>.one 0 <| .one 1 <| .one 2 <| .one 3 <| .one 4 <| .one 5 <| .done
  | 8=>.one 0 <| .one 1 <| .one 2 <| .one 3 <| .one 4 <| .one 5 <| .one 6 <| .one 9 <| .one 10 <| .one 7 <| .one 8 <| .one 11 <| .one 12 <| .alt 13 [] (.alt 14 [12,11,8,7] (.one 15 <| .one 16 <| .done) <| .none) <| .none
  | _=>.done
@[go_sem] theorem plan_132_5:pl_132 5=(.one 0 <| .one 1 <| .one 2 <| .one 3 <| .one 4 <| .one 5 <| .done):=id rfl
@[go_sem] theorem plan_132_8:pl_132 8=(.one 0 <| .one 1 <| .one 2 <| .one 3 <| .one 4 <| .one 5 <| .one 6 <| .one 9 <| .one 10 <| .one 7 <| .one 8 <| .one 11 <| .one 12 <| .alt 13 [] (.alt 14 [12,11,8,7] (.one 15 <| .one 16 <| .done) <| .none) <| .none):=id rfl
def tb_132 (n:Nat):List Row:=
  match n with
  | 5=>[⟨524288,16,0,0⟩,⟨1048576,524288,1,2⟩,⟨2097152,1,0,0⟩,⟨4194304,2097152,4,1⟩,⟨8388608,5242880,10,2⟩,⟨16777216,8388608,16,0⟩]
  | 8=>[⟨536870912,1,0,0⟩,⟨1073741824,536870912,1,1⟩,⟨2147483648,1073741824,2,2⟩,⟨4294967296,2147483648,4,1⟩,⟨8589934592,4294967296,8,0⟩,⟨17179869184,1,0,0⟩,⟨34359738368,17179869184,32,1⟩,⟨68719476736,34359738368,64,2⟩,⟨137438953472,68719476736,128,2⟩,⟨274877906944,1,0,0⟩,⟨549755813888,274877906944,512,1⟩,⟨1099511627776,549755813888,1024,2⟩,⟨2199023255552,1099511627776,2048,2⟩,⟨64,0,0,3⟩,⟨0,8589934656,8223,4⟩,⟨128,137438953472,25087,0⟩,⟨256,2199023255552,65535,0⟩]
  | _=>[]
theorem enter_132:Ent 132 Tryz.f132 pl_132 [.cell 2 45,.tmp 3] 86:=ent tb_132 Tryz.func132 Tryz.results132 Tryz.ntmps132 (by kernel_rfl)
theorem enter_133:Ent 133 Tryz.f133 pl0 [.tmp 2] 23:=ent tb0 Tryz.func133 Tryz.results133 Tryz.ntmps133 (by kernel_rfl)
def pl_140 (n:Nat):Plan:=
  match n with
  | 8=>.one 0 <| .one 1 <| .one 2 <| .one 3 <| .one 4 <| .one 5 <| .one 6 <| .one 7 <| .one 8 <| .done
  | _=>.done
@[go_sem] theorem plan_140_8:pl_140 8=(.one 0 <| .one 1 <| .one 2 <| .one 3 <| .one 4 <| .one 5 <| .one 6 <| .one 7 <| .one 8 <| .done):=id rfl
def tb_140 (n:Nat):List Row:=
  match n with
  | 8=>[⟨8589934592,1,0,0⟩,⟨17179869184,2048,0,0⟩,⟨34359738368,25769803776,3,1⟩,⟨68719476736,34359738368,4,1⟩,⟨137438953472,68719476736,8,2⟩,⟨274877906944,8,0,1⟩,⟨549755813888,274877906944,32,2⟩,⟨1099511627776,687194767360,80,0⟩,⟨4096,1099511627776,255,0⟩]
  | _=>[]
theorem enter_140:Ent 140 Tryz.f140 pl_140 [.tmp 4] 77:=ent tb_140 Tryz.func140 Tryz.results140 Tryz.ntmps140 (by kernel_rfl)
end Go.Proofs.YtdlfmajopcbllaaGreat
namespace Go.Proofs.YtdlfmajopcbllaaGreat
open Go Go.Eng
set_option maxRecDepth 20000
variable [Toks]
theorem enter_173:Ent 173 Tryz.f173 pl0 [.tmp 4] 19:=ent tb0 Tryz.func173 Tryz.results173 Tryz.ntmps173 (by kernel_rfl)
def pl_178 (n:Nat):Plan:=
  match n with
  | 1=>.one 0 <| .one 1 <| .one 2 <| .one 3 <| .one 4 <| .one 5 <| .done
  | _=>.done
@[go_sem] theorem plan_178_1:pl_178 1=(.one 0 <| .one 1 <| .one 2 <| .one 3 <| .one 4 <| .one 5 <| .done):=id rfl
def tb_178 (n:Nat):List Row:=
  match n with
  | 1=>[⟨32,4,0,2⟩,⟨64,32,1,0⟩,⟨128,8,0,2⟩,⟨256,128,6,0⟩,⟨512,320,10,0⟩,⟨16,512,31,0⟩]
  | _=>[]
theorem enter_178:Ent 178 Tryz.f178 pl_178 [.tmp 4] 10:=ent tb_178 Tryz.func178 Tryz.results178 Tryz.ntmps178 (by kernel_rfl)
theorem enter_190:Ent 190 Tryz.f190 pl0 [.tmp 2] 9:=ent tb0 Tryz.func190 Tryz.results190 Tryz.ntmps190 (by kernel_rfl)
theorem enter_191:Ent 191 Tryz.f191 pl0 [.tmp 2] 45:=ent tb0 Tryz.func191 Tryz.results191 Tryz.ntmps191 (by kernel_rfl)
theorem enter_198:Ent 198 Tryz.f198 pl0 [.tmp 4] 12:=ent tb0 Tryz.func198 Tryz.results198 Tryz.ntmps198 (by kernel_rfl)
theorem enter_200:Ent 200 Tryz.f200 pl0 [.tmp 4] 6:=ent tb0 Tryz.func200 Tryz.results200 Tryz.ntmps200 (by kernel_rfl)
theorem enter_201:Ent 201 Tryz.f201 pl0 [.tmp 2] 20:=ent tb0 Tryz.func201 Tryz.results201 Tryz.ntmps201 (by kernel_rfl)
def pl_202 (n:Nat):Plan:=
  match n with
  | 4=>.one 0 <| .one 1 <| .one 2 <| .one 3 <| .one 4 <| .one 5 <| .one 6 <| .one 8 <| .one 9 <| .one 10 <| .one 11 <| .one 12 <| .one 13 <| .alt 7 [13,12,11,10,9,8] (.alt 14 [] (.one 15 <| .done) <| .none) <| .none
  | 19=>.one 0 <| .one 1 <| .one 2 <| .one 3 <| .one 4 <| .one 6 <| .one 7 <| .one 9 <| .one 10 <| .one 11 <| .one 12 <| .one 13 <| .one 14 <| .alt 5 [14,13,12,11,10,9,7,6] (.alt 8 [14,13,12,11,10,9] (.alt 15 [] (.one 16 <| .done) <| .none) <| .none) <| .none
  | _=>.done
@[go_sem] theorem plan_202_4:pl_202 4=(.one 0 <| .one 1 <| .one 2 <| .one 3 <| .one 4 <| .one 5 <| .one 6 <| .one 8 <| .one 9 <| .one 10 <| .one 11 <| .one 12 <| .one 13 <| .alt 7 [13,12,11,10,9,8] (.alt 14 [] (.one 15 <| .done) <| .none) <| .none):=id rfl
@[go_sem] theorem plan_202_19:pl_202 19=(.one 0 <| .one 1 <| .one 2 <| .one 3 <| .one 4 <| .one 6 <| .one 7 <| .one 9 <| .one 10 <| .one 11 <| .one 12 <| .one 13 <| .one 14 <| .alt 5 [14,13,12,11,10,9,7,6] (.alt 8 [14,13,12,11,10,9] (.alt 15 [] (.one 16 <| .done) <| .none) <| .none) <| .none):=id rfl
def tb_202 (n:Nat):List Row:=
  match n with
  | 4=>[⟨1048576,1,0,0⟩,⟨2097152,64,0,1⟩,⟨4194304,2097152,2,1⟩,⟨8388608,64,0,1⟩,⟨16777216,8388608,8,1⟩,⟨33554432,16777216,16,2⟩,⟨67108864,37748736,36,1⟩,⟨134217728,68157440,65,5⟩,⟨268435456,64,0,1⟩,⟨536870912,268435456,256,1⟩,⟨1073741824,64,0,1⟩,⟨2147483648,1073741824,1024,1⟩,⟨4294967296,2147483648,2048,2⟩,⟨8589934592,4831838208,4608,1⟩,⟨17179869184,8724152320,8320,5⟩,⟨1,17179869184,32767,0⟩]
  | 19=>[⟨590295810358705651712,1,0,0⟩,⟨1180591620717411303424,4096,0,1⟩,⟨2361183241434822606848,1180591620717411303424,2,2⟩,⟨4722366482869645213696,2361183241434822606848,4,2⟩,⟨9444732965739290427392,4722366482869645213696,8,0⟩,⟨18889465931478580854784,10035028776097996079104,17,5⟩,⟨37778931862957161709568,4096,0,1⟩,⟨75557863725914323419136,37778931862957161709568,64,2⟩,⟨151115727451828646838272,94447329657392904273920,160,5⟩,⟨302231454903657293676544,4096,0,1⟩,⟨604462909807314587353088,302231454903657293676544,512,1⟩,⟨1208925819614629174706176,4096,0,1⟩,⟨2417851639229258349412352,1208925819614629174706176,2048,1⟩,⟨4835703278458516698824704,2417851639229258349412352,4096,2⟩,⟨9671406556917033397649408,5440166188265831286177792,9216,1⟩,⟨19342813113834066795298816,9822522284368862044487680,16640,5⟩,⟨1,19342813113834066795298816,65535,0⟩]
  | _=>[]
theorem enter_202:Ent 202 Tryz.f202 pl_202 [.tmp 4] 105:=ent tb_202 Tryz.func202 Tryz.results202 Tryz.ntmps202 (by kernel_rfl)
theorem enter_203:Ent 203 Tryz.f203 pl0 [.tmp 2] 7:=ent tb0 Tryz.func203 Tryz.results203 Tryz.ntmps203 (by kernel_rfl)
end Go.Proofs.YtdlfmajopcbllaaGreat
namespace Go.Proofs.YtdlfmajopcbllaaGreat
open Go Go.Eng
set_option maxRecDepth 20000
variable [Toks]
theorem enter_211:Ent 211 Tryz.f211 pl0 [.tmp 4] 10:=ent tb0 Tryz.func211 Tryz.results211 Tryz.ntmps211 (by kernel_rfl)
theorem enter_212:Ent 212 Tryz.f212 pl0 [.tmp 4] 16:=ent tb0 Tryz.func212 Tryz.results212 Tryz.ntmps212 (by kernel_rfl)
theorem enter_213:Ent 213 Tryz.f213 pl0 [.cell 2 189] 8:=ent tb0 Tryz.func213 Tryz.results213 Tryz.ntmps213 (by kernel_rfl)
theorem enter_214:Ent 214 Tryz.f214 pl0 [.tmp 4] 16:=ent tb0 Tryz.func214 Tryz.results214 Tryz.ntmps214 (by kernel_rfl)
theorem enter_215:Ent 215 Tryz.f215 pl0 [.tmp 2] 6:=ent tb0 Tryz.func215 Tryz.results215 Tryz.ntmps215 (by kernel_rfl)
theorem enter_216:Ent 216 Tryz.f216 pl0 [.tmp 4] 16:=ent tb0 Tryz.func216 Tryz.results216 Tryz.ntmps216 (by kernel_rfl)
theorem enter_217:Ent 217 Tryz.f217 pl0 [.cell 2 30] 10:=ent tb0 Tryz.func217 Tryz.results217 Tryz.ntmps217 (by kernel_rfl)
theorem enter_218:Ent 218 Tryz.f218 pl0 [.tmp 4] 16:=ent tb0 Tryz.func218 Tryz.results218 Tryz.ntmps218 (by kernel_rfl)
theorem enter_219:Ent 219 Tryz.f219 pl0 [.cell 2 65] 25:=ent tb0 Tryz.func219 Tryz.results219 Tryz.ntmps219 (by kernel_rfl)
theorem enter_220:Ent 220 Tryz.f220 pl0 [.tmp 2] 42:=ent tb0 Tryz.func220 Tryz.results220 Tryz.ntmps220 (by kernel_rfl)
def pl_222 (n:Nat):Plan:=
  match n with
  | 7=>.one 0 <| .one 1 <| .one 2 <| .one 3 <| .one 4 <| .one 5 <| .one 6 <| .one 7 <| .one 8 <| .one 9 <| .one 10 <| .one 11 <| .one 12 <| .one 13 <| .one 14 <| .one 15 <| .done
  | 9=>.one 0 <| .one 1 <| .one 2 <| .one 3 <| .one 4 <| .one 5 <| .one 6 <| .one 7 <| .one 8 <| .one 9 <| .one 10 <| .one 11 <| .one 12 <| .one 13 <| .one 14 <| .done
  | 11=>.one 0 <| .one 1 <| .one 2 <| .one 3 <| .one 5 <| .one 6 <| .one 11 <| .one 12 <| .one 7 <| .one 8 <| .one 9 <| .one 13 <| .alt 4 [13,8,7] (.alt 10 [13] (.alt 14 [] (.one 15 <| .done) <| .none) <| .none) <| .none
  | _=>.done
@[go_sem] theorem plan_222_7:pl_222 7=(.one 0 <| .one 1 <| .one 2 <| .one 3 <| .one 4 <| .one 5 <| .one 6 <| .one 7 <| .one 8 <| .one 9 <| .one 10 <| .one 11 <| .one 12 <| .one 13 <| .one 14 <| .one 15 <| .done):=id rfl
@[go_sem] theorem plan_222_9:pl_222 9=(.one 0 <| .one 1 <| .one 2 <| .one 3 <| .one 4 <| .one 5 <| .one 6 <| .one 7 <| .one 8 <| .one 9 <| .one 10 <| .one 11 <| .one 12 <| .one 13 <| .one 14 <| .done):=id rfl
@[go_sem] theorem plan_222_11:pl_222 11=(.one 0 <| .one 1 <| .one 2 <| .one 3 <| .one 5 <| .one 6 <| .one 11 <| .one 12 <| .one 7 <| .one 8 <| .one 9 <| .one 13 <| .alt 4 [13,8,7] (.alt 10 [13] (.alt 14 [] (.one 15 <| .done) <| .none) <| .none) <| .none):=id rfl
def tb_222 (n:Nat):List Row:=
  match n with
  | 7=>[⟨524288,32,0,0⟩,⟨1048576,8,0,0⟩,⟨2097152,1048576,2,1⟩,⟨4194304,2621440,5,1⟩,⟨8388608,4194304,8,0⟩,⟨16777216,8388616,16,0⟩,⟨33554432,8388640,16,0⟩,⟨67108864,58720256,112,1⟩,⟨134217728,75497472,144,2⟩,⟨268435456,8388609,16,0⟩,⟨536870912,8388624,16,0⟩,⟨1073741824,813694976,1552,1⟩,⟨2147483648,1082130432,2064,2⟩,⟨4294967296,2290089984,4368,0⟩,⟨8589934592,4303355904,8208,1⟩,⟨17179869184,8598323200,16400,0⟩]
  | 9=>[⟨137438953472,32,0,0⟩,⟨274877906944,8,0,0⟩,⟨549755813888,274877906944,2,1⟩,⟨1099511627776,687194767360,5,1⟩,⟨2199023255552,1099511627776,8,0⟩,⟨4398046511104,2199023255560,16,0⟩,⟨8796093022208,2199023255584,16,0⟩,⟨17592186044416,15393162788864,112,1⟩,⟨35184372088832,19791209299968,144,2⟩,⟨70368744177664,2199023255553,16,0⟩,⟨140737488355328,2199023255568,16,0⟩,⟨281474976710656,213305255788544,1552,1⟩,⟨562949953421312,283673999966208,2064,2⟩,⟨1125899906842624,600333348765696,4368,1⟩,⟨2251799813685248,1128098930098176,8208,0⟩]
  | 11=>[⟨4503599627370496,64,0,0⟩,⟨9007199254740992,8,0,0⟩,⟨18014398509481984,32,0,0⟩,⟨36028797018963968,27021597764222976,6,1⟩,⟨72057594037927936,40532396646334464,9,5⟩,⟨144115188075855872,1,0,0⟩,⟨288230376151711744,16,0,0⟩,⟨576460752303423488,432345564227567616,96,1⟩,⟨1152921504606846976,576460752303423488,128,2⟩,⟨2305843009213693952,1152921504606846976,256,0⟩,⟨4611686018427387904,2377900603251621888,528,5⟩,⟨9223372036854775808,8,0,0⟩,⟨18446744073709551616,32,0,0⟩,⟨36893488147419103232,27670116110564327424,6144,1⟩,⟨73786976294838206464,41505174165846491136,9216,5⟩,⟨64,73786976294838206464,32767,0⟩]
  | _=>[]
theorem enter_222:Ent 222 Tryz.f222 pl_222 [.tmp 2] 69:=ent tb_222 Tryz.func222 Tryz.results222 Tryz.ntmps222 (by kernel_rfl)
def pl_224 (n:Nat):Plan:=
  match n with
  | 4=>.one 0 <| .one 1 <| .one 2 <| .one 3 <| .one 4 <| .one 5 <| .one 6 <| .done
  | _=>.done
@[go_sem] theorem plan_224_4:pl_224 4=(.one 0 <| .one 1 <| .one 2 <| .one 3 <| .one 4 <| .one 5 <| .one 6 <| .done):=id rfl
def tb_224 (n:Nat):List Row:=
  match n with
  | 4=>[⟨8192,1,0,0⟩,⟨16384,64,0,0⟩,⟨32768,24576,3,1⟩,⟨65536,32768,4,1⟩,⟨131072,65536,8,2⟩,⟨262144,8,0,2⟩,⟨524288,393216,48,1⟩]
  | _=>[]
theorem enter_224:Ent 224 Tryz.f224 pl_224 [.cell 4 63,.tmp 5] 26:=ent tb_224 Tryz.func224 Tryz.results224 Tryz.ntmps224 (by kernel_rfl)
theorem enter_225:Ent 225 Tryz.f225 pl0 [.cell 6 63,.tmp 7] 26:=ent tb0 Tryz.func225 Tryz.results225 Tryz.ntmps225 (by kernel_rfl)
end Go.Proofs.YtdlfmajopcbllaaGreat
namespace Go.Proofs.YtdlfmajopcbllaaGreat
open Go Go.Eng
set_option maxRecDepth 20000
variable [Toks]
theorem enter_253:Ent 253 Tryz.f253 pl0 [.tmp 2] 11:=ent tb0 Tryz.func253 Tryz.results253 Tryz.ntmps253 (by kernel_rfl)
def pl_255 (n:Nat):Plan:=
  match n with
  | 1=>.one 0 <| .one 1 <| .one 2 <| .one 3 <| .one 4 <| .one 5 <| .one 6 <| .one 7 <| .one 8 <| .done
  | _=>.done
theorem enter_262:Ent 262 Tryz.f262 pl0 [.tmp 2] 23:=ent tb0 Tryz.func262 Tryz.results262 Tryz.ntmps262 (by kernel_rfl)
theorem enter_263:Ent 263 Tryz.f263 pl0 [.tmp 2] 23:=ent tb0 Tryz.func263 Tryz.results263 Tryz.ntmps263 (by kernel_rfl)
theorem enter_267:Ent 267 Tryz.f267 pl0 [.tmp 4] 8:=ent tb0 Tryz.func267 Tryz.results267 Tryz.ntmps267 (by kernel_rfl)
def pl_269 (n:Nat):Plan:=
  match n with
  | 4=>.one 0 <| .one 1 <| .one 2 <| .one 3 <| .one 4 <| .one 5 <| .one 6 <| .one 7 <| .one 8 <| .alt 9 [] (.done) <| .none
  | _=>.done
theorem enter_274:Ent 274 Tryz.f274 pl0 [.tmp 2] 6:=ent tb0 Tryz.func274 Tryz.results274 Tryz.ntmps274 (by kernel_rfl)
theorem enter_275:Ent 275 Tryz.f275 pl0 [.tmp 4] 13:=ent tb0 Tryz.func275 Tryz.results275 Tryz.ntmps275 (by kernel_rfl)
theorem enter_276:Ent 276 Tryz.f276 pl0 [.tmp 6] 26:=ent tb0 Tryz.func276 Tryz.results276 Tryz.ntmps276 (by kernel_rfl)
theorem enter_280:Ent 280 Tryz.f280 pl0 [.cell 2 63] 10:=ent tb0 Tryz.func280 Tryz.results280 Tryz.ntmps280 (by kernel_rfl)
def pl_281 (n:Nat):Plan:=
  match n with
  | 1=>.one 0 <| .one 1 <| .one 2 <| .one 3 <| .one 4 <| .one 5 <| .one 6 <| .one 7 <| .one 8 <| .one 9 <| .one 10 <| .one 11 <| .one 12 <| .one 13 <| .one 14 <| .done
  | _=>.done
@[go_sem] theorem plan_281_1:pl_281 1=(.one 0 <| .one 1 <| .one 2 <| .one 3 <| .one 4 <| .one 5 <| .one 6 <| .one 7 <| .one 8 <| .one 9 <| .one 10 <| .one 11 <| .one 12 <| .one 13 <| .one 14 <| .done):=id rfl
def tb_281 (n:Nat):List Row:=
  match n with
  | 1=>[⟨256,1,0,0⟩,⟨512,256,1,1⟩,⟨1024,512,2,1⟩,⟨2048,1024,4,2⟩,⟨4096,1,0,0⟩,⟨8192,4096,16,1⟩,⟨16384,8192,32,1⟩,⟨32768,16384,64,2⟩,⟨65536,2,0,0⟩,⟨131072,100352,392,2⟩,⟨128,131072,512,0⟩,⟨262144,128,1024,0⟩,⟨524288,128,1024,0⟩,⟨32,262144,4095,0⟩,⟨64,524288,16383,0⟩]
  | _=>[]
theorem enter_281:Ent 281 Tryz.f281 pl_281 [.tmp 4] 40:=ent tb_281 Tryz.func281 Tryz.results281 Tryz.ntmps281 (by kernel_rfl)
def pl_282 (n:Nat):Plan:=
  match n with
  | 2=>.one 0 <| .one 1 <| .one 2 <| .one 3 <| .one 4 <| .one 5 <| .one 6 <| .one 7 <| .one 8 <| .one 9 <| .one 10 <| .one 11 <| .one 12 <| .one 13 <| .one 14 <| .one 15 <| .one 16 <| .one 17 <| .done
  | 5=>.one 0 <| .one 1 <| .one 2 <| .one 3 <| .one 4 <| .one 5 <| .one 6 <| .one 7 <| .one 8 <| .one 9 <| .one 10 <| .one 11 <| .one 12 <| .one 13 <| .one 14 <| .one 15 <| .alt 16 [] (.done) <| .none
  | _=>.done
@[go_sem] theorem plan_282_2:pl_282 2=(.one 0 <| .one 1 <| .one 2 <| .one 3 <| .one 4 <| .one 5 <| .one 6 <| .one 7 <| .one 8 <| .one 9 <| .one 10 <| .one 11 <| .one 12 <| .one 13 <| .one 14 <| .one 15 <| .one 16 <| .one 17 <| .done):=id rfl
@[go_sem] theorem plan_282_5:pl_282 5=(.one 0 <| .one 1 <| .one 2 <| .one 3 <| .one 4 <| .one 5 <| .one 6 <| .one 7 <| .one 8 <| .one 9 <| .one 10 <| .one 11 <| .one 12 <| .one 13 <| .one 14 <| .one 15 <| .alt 16 [] (.done) <| .none):=id rfl
def tb_282 (n:Nat):List Row:=
  match n with
  | 2=>[⟨512,32,0,0⟩,⟨1024,2,0,0⟩,⟨2048,1024,2,1⟩,⟨4096,2560,5,1⟩,⟨8192,4096,8,0⟩,⟨16384,8224,16,0⟩,⟨32768,8193,16,0⟩,⟨65536,40960,80,1⟩,⟨131072,73728,144,1⟩,⟨262144,139264,272,2⟩,⟨524288,270336,528,1⟩,⟨1048576,8193,16,0⟩,⟨2097152,1056768,2064,1⟩,⟨4194304,2105344,4112,1⟩,⟨8388608,4202496,8208,2⟩,⟨16777216,8921088,17424,1⟩,⟨33554432,16801792,32816,1⟩,⟨67108864,33562624,65552,0⟩]
  | 5=>[⟨1073741824,2,0,0⟩,⟨2147483648,1,0,0⟩,⟨4294967296,2147483648,2,1⟩,⟨8589934592,4294967296,4,1⟩,⟨17179869184,8589934592,8,2⟩,⟨34359738368,1,0,0⟩,⟨68719476736,34359738368,32,1⟩,⟨137438953472,68719476736,64,1⟩,⟨274877906944,137438953472,128,2⟩,⟨549755813888,1,0,0⟩,⟨1099511627776,549755813888,512,1⟩,⟨2199023255552,1099511627776,1024,1⟩,⟨4398046511104,2199023255552,2048,2⟩,⟨8796093022208,32,0,0⟩,⟨17592186044416,13194139533312,12288,1⟩,⟨35184372088832,17884243820544,16656,1⟩,⟨70368744177664,35185445830656,32769,5⟩]
  | _=>[]
theorem enter_282:Ent 282 Tryz.f282 pl_282 [.tmp 4] 56:=ent tb_282 Tryz.func282 Tryz.results282 Tryz.ntmps282 (by kernel_rfl)
def pl_283 (n:Nat):Plan:=
  match n with
  | 4=>.one 0 <| .one 1 <| .one 2 <| .one 3 <| .one 4 <| .one 5 <| .one 6 <| .one 7 <| .one 8 <| .one 9 <| .one 10 <| .one 11 <| .one 12 <| .one 13 <| .one 14 <| .one 15 <| .one 16 <| .one 17 <| .one 18 <| .one 19 <| .one 20 <| .one 21 <| .one 22 <| .one 23 <| .one 24 <| .one 25 <| .one 26 <| .one 27 <| .one 28 <| .one 29 <| .one 30 <| .one 31 <| .one 32 <| .one 33 <| .one 34 <| .done
  | _=>.done
@[go_sem] theorem plan_283_4:pl_283 4=(.one 0 <| .one 1 <| .one 2 <| .one 3 <| .one 4 <| .one 5 <| .one 6 <| .one 7 <| .one 8 <| .one 9 <| .one 10 <| .one 11 <| .one 12 <| .one 13 <| .one 14 <| .one 15 <| .one 16 <| .one 17 <| .one 18 <| .one 19 <| .one 20 <| .one 21 <| .one 22 <| .one 23 <| .one 24 <| .one 25 <| .one 26 <| .one 27 <| .one 28 <| .one 29 <| .one 30 <| .one 31 <| .one 32 <| .one 33 <| .one 34 <| .done):=id rfl
def tb_283 (n:Nat):List Row:=
  match n with
  | 4=>[⟨1024,1,0,0⟩,⟨2048,8,0,0⟩,⟨4096,3072,3,1⟩,⟨8192,4096,4,1⟩,⟨16384,8192,8,2⟩,⟨32768,16384,16,0⟩,⟨65536,32768,32,0⟩,⟨131072,65536,96,0⟩,⟨262144,131073,128,0⟩,⟨524288,131080,128,0⟩,⟨1048576,917504,896,1⟩,⟨2097152,1179648,1152,1⟩,⟨4194304,2228224,2176,2⟩,⟨8388608,4325376,4224,0⟩,⟨16777216,8519680,8320,0⟩,⟨33554432,16908288,16512,0⟩,⟨67108864,33554432,40960,0⟩,⟨134217728,67108872,65536,0⟩,⟨268435456,201326592,196608,1⟩,⟨536870912,335544320,327680,0⟩,⟨1073741824,536870913,524288,0⟩,⟨2147483648,536870920,524288,0⟩,⟨4294967296,2684354560,2621440,1⟩,⟨8589934592,5905580032,5767168,1⟩,⟨17179869184,9126805504,8912896,1⟩,⟨34359738368,17716740096,17301504,2⟩,⟨68719476736,536870913,524288,0⟩,⟨137438953472,536870920,524288,0⟩,⟨274877906944,206695301120,201850880,1⟩,⟨549755813888,275414777856,268959744,1⟩,⟨1099511627776,550292684800,537395200,2⟩,⟨2199023255552,1134408237056,1107820544,0⟩,⟨4398046511104,2199560126464,2148007936,1⟩,⟨8796093022208,4398650490880,4295557120,0⟩,⟨17592186044416,8796160131072,8590000128,0⟩]
  | _=>[]
theorem enter_283:Ent 283 Tryz.f283 pl_283 [.tmp 2] 45:=ent tb_283 Tryz.func283 Tryz.results283 Tryz.ntmps283 (by kernel_rfl)
def pl_284 (n:Nat):Plan:=
  match n with
  | 11=>.one 0 <| .one 1 <| .one 2 <| .one 3 <| .one 4 <| .one 5 <| .one 6 <| .one 7 <| .one 8 <| .one 9 <| .one 10 <| .one 11 <| .one 12 <| .one 13 <| .one 14 <| .one 15 <| .one 16 <| .one 17 <| .one 18 <| .one 19 <| .one 20 <| .one 21 <| .one 22 <| .done
  | _=>.done
@[go_sem] theorem plan_284_11:pl_284 11=(.one 0 <| .one 1 <| .one 2 <| .one 3 <| .one 4 <| .one 5 <| .one 6 <| .one 7 <| .one 8 <| .one 9 <| .one 10 <| .one 11 <| .one 12 <| .one 13 <| .one 14 <| .one 15 <| .one 16 <| .one 17 <| .one 18 <| .one 19 <| .one 20 <| .one 21 <| .one 22 <| .done):=id rfl
def tb_284 (n:Nat):List Row:=
  match n with
  | 11=>[⟨144115188075855872,2,0,0⟩,⟨288230376151711744,64,0,0⟩,⟨576460752303423488,432345564227567616,3,1⟩,⟨1152921504606846976,576460752303423488,4,2⟩,⟨2305843009213693952,1152921504606846976,8,0⟩,⟨4611686018427387904,2305843009213693952,16,0⟩,⟨9223372036854775808,4611686018427387904,48,0⟩,⟨18446744073709551616,9223372036854775872,64,0⟩,⟨36893488147419103232,27670116110564327424,192,1⟩,⟨73786976294838206464,46116860184273879040,320,0⟩,⟨147573952589676412928,73786976294838206466,512,0⟩,⟨295147905179352825856,73786976294838206528,512,0⟩,⟨590295810358705651712,368934881474191032320,2560,1⟩,⟨1180591620717411303424,811656739243220271104,5632,1⟩,⟨2361183241434822606848,1254378597012249509888,8704,2⟩,⟨4722366482869645213696,73786976294838206466,512,0⟩,⟨9444732965739290427392,73786976294838206528,512,0⟩,⟨18889465931478580854784,14240886424903773847552,98816,1⟩,⟨37778931862957161709568,18963252907773419061248,131584,2⟩,⟨75557863725914323419136,40213902080686822522880,279040,0⟩,⟨151115727451828646838272,75631650702209161625600,524800,1⟩,⟨302231454903657293676544,151198737800160339820544,1049152,0⟩,⟨604462909807314587353088,302240678275694148452352,2097216,0⟩]
  | _=>[]
theorem enter_284:Ent 284 Tryz.f284 pl_284 [.tmp 4] 80:=ent tb_284 Tryz.func284 Tryz.results284 Tryz.ntmps284 (by kernel_rfl)
def pl_285 (n:Nat):Plan:=
  match n with
  | 4=>.one 0 <| .one 1 <| .one 2 <| .one 3 <| .one 4 <| .one 5 <| .one 6 <| .one 7 <| .one 8 <| .one 9 <| .one 10 <| .one 11 <| .one 12 <| .one 13 <| .one 14 <| .one 15 <| .one 16 <| .one 17 <| .one 18 <| .one 19 <| .one 20 <| .one 21 <| .one 22 <| .one 23 <| .one 24 <| .done
  | _=>.done
@[go_sem] theorem plan_285_4:pl_285 4=(.one 0 <| .one 1 <| .one 2 <| .one 3 <| .one 4 <| .one 5 <| .one 6 <| .one 7 <| .one 8 <| .one 9 <| .one 10 <| .one 11 <| .one 12 <| .one 13 <| .one 14 <| .one 15 <| .one 16 <| .one 17 <| .one 18 <| .one 19 <| .one 20 <| .one 21 <| .one 22 <| .one 23 <| .one 24 <| .done):=id rfl
def tb_285 (n:Nat):List Row:=
  match n with
  | 4=>[⟨1024,1,0,0⟩,⟨2048,8,0,0⟩,⟨4096,3072,3,1⟩,⟨8192,4096,4,2⟩,⟨16384,8192,8,0⟩,⟨32768,16384,16,0⟩,⟨65536,32768,48,0⟩,⟨131072,65544,64,0⟩,⟨262144,196608,192,1⟩,⟨524288,327680,320,0⟩,⟨1048576,524289,512,0⟩,⟨2097152,524296,512,0⟩,⟨4194304,2621440,2560,1⟩,⟨8388608,5767168,5632,1⟩,⟨16777216,8912896,8704,1⟩,⟨33554432,17301504,16896,2⟩,⟨67108864,524289,512,0⟩,⟨134217728,524296,512,0⟩,⟨268435456,201850880,197120,1⟩,⟨536870912,268959744,262656,1⟩,⟨1073741824,537395200,524800,2⟩,⟨2147483648,1107820544,1081856,0⟩,⟨4294967296,2148007936,2097664,1⟩,⟨8589934592,4295557120,4194880,0⟩,⟨17179869184,8590000128,8388672,0⟩]
  | _=>[]
theorem enter_285:Ent 285 Tryz.f285 pl_285 [.tmp 2] 35:=ent tb_285 Tryz.func285 Tryz.results285 Tryz.ntmps285 (by kernel_rfl)
end Go.Proofs.YtdlfmajopcbllaaGreat
namespace Go.Proofs.YtdlfmajopcbllaaGreat
open Go Go.Eng
set_option maxRecDepth 20000
variable [Toks]
def pl_302 (n:Nat):Plan:=
  match n with
  | 4=>.one 0 <| .one 1 <| .one 2 <| .one 3 <| .one 4 <| .one 5 <| .alt 6 [] (.done) <| .none
  | _=>.done
@[go_sem] theorem plan_302_4:pl_302 4=(.one 0 <| .one 1 <| .one 2 <| .one 3 <| .one 4 <| .one 5 <| .alt 6 [] (.done) <| .none):=id rfl
def tb_302 (n:Nat):List Row:=
  match n with
  | 4=>[⟨32768,8,0,1⟩,⟨65536,2,0,1⟩,⟨131072,65536,2,2⟩,⟨262144,163840,5,1⟩,⟨524288,2,0,1⟩,⟨1048576,524288,16,1⟩,⟨2097152,1310720,40,5⟩]
  | _=>[]
theorem enter_302:Ent 302 Tryz.f302 pl_302 [.tmp 2] 25:=ent tb_302 Tryz.func302 Tryz.results302 Tryz.ntmps302 (by kernel_rfl)
theorem enter_303:Ent 303 Tryz.f303 pl0 [.cell 2 63] 12:=ent tb0 Tryz.func303 Tryz.results303 Tryz.ntmps303 (by kernel_rfl)
theorem enter_304:Ent 304 Tryz.f304 pl0 [.tmp 6,.tmp 7] 42:=ent tb0 Tryz.func304 Tryz.results304 Tryz.ntmps304 (by kernel_rfl)
theorem enter_314:Ent 314 Tryz.f314 pl0 [.tmp 2] 9:=ent tb0 Tryz.func314 Tryz.results314 Tryz.ntmps314 (by kernel_rfl)
theorem enter_324:Ent 324 Tryz.f324 pl0 [.tmp 2] 18:=ent tb0 Tryz.func324 Tryz.results324 Tryz.ntmps324 (by kernel_rfl)
end Go.Proofs.YtdlfmajopcbllaaGreat
namespace Go.Proofs.YtdlfmajopcbllaaGreat
open Go Go.Eng
set_option maxRecDepth 20000
variable [Toks]
theorem enter_337:Ent 337 Tryz.f337 pl0 [.tmp 2] 26:=ent tb0 Tryz.func337 Tryz.results337 Tryz.ntmps337 (by kernel_rfl)
theorem enter_338:Ent 338 Tryz.f338 pl0 [.tmp 2] 18:=ent tb0 Tryz.func338 Tryz.results338 Tryz.ntmps338 (by kernel_rfl)
theorem enter_339:Ent 339 Tryz.f339 pl0 [.tmp 2] 11:=ent tb0 Tryz.func339 Tryz.results339 Tryz.ntmps339 (by kernel_rfl)
theorem enter_343:Ent 343 Tryz.f343 pl0 [.tmp 2] 39:=ent tb0 Tryz.func343 Tryz.results343 Tryz.ntmps343 (by kernel_rfl)
def pl_346 (n:Nat):Plan:=
  match n with
  | 1=>.one 0 <| .one 1 <| .one 2 <| .one 3 <| .one 4 <| .one 5 <| .one 6 <| .one 7 <| .one 8 <| .one 9 <| .one 10 <| .one 11 <| .one 12 <| .one 13 <| .one 14 <| .one 15 <| .one 16 <| .one 17 <| .done
  | _=>.done
@[go_sem] theorem plan_346_1:pl_346 1=(.one 0 <| .one 1 <| .one 2 <| .one 3 <| .one 4 <| .one 5 <| .one 6 <| .one 7 <| .one 8 <| .one 9 <| .one 10 <| .one 11 <| .one 12 <| .one 13 <| .one 14 <| .one 15 <| .one 16 <| .one 17 <| .done):=id rfl
def tb_346 (n:Nat):List Row:=
  match n with
  | 1=>[⟨8,2,0,1⟩,⟨16,8,1,2⟩,⟨32,16,2,1⟩,⟨64,32,4,0⟩,⟨128,66,8,1⟩,⟨256,192,24,2⟩,⟨512,320,40,1⟩,⟨1024,576,72,0⟩,⟨2048,1024,136,0⟩,⟨4096,2050,256,1⟩,⟨8192,2050,256,1⟩,⟨16384,10240,1280,2⟩,⟨32768,22528,2816,1⟩,⟨65536,34816,4352,2⟩,⟨131072,2050,256,2⟩,⟨262144,198656,24832,1⟩,⟨524288,264192,33024,0⟩,⟨4,524288,131071,0⟩]
  | _=>[]
theorem enter_346:Ent 346 Tryz.f346 pl_346 [.tmp 2] 20:=ent tb_346 Tryz.func346 Tryz.results346 Tryz.ntmps346 (by kernel_rfl)
theorem enter_366:Ent 366 Tryz.f366 pl0 [.tmp 2] 6:=ent tb0 Tryz.func366 Tryz.results366 Tryz.ntmps366 (by kernel_rfl)
theorem enter_367:Ent 367 Tryz.f367 pl0 [.tmp 2] 20:=ent tb0 Tryz.func367 Tryz.results367 Tryz.ntmps367 (by kernel_rfl)
def pl_368 (n:Nat):Plan:=
  match n with
  | 4=>.one 0 <| .one 1 <| .one 2 <| .one 3 <| .one 4 <| .one 5 <| .one 6 <| .one 7 <| .one 8 <| .one 9 <| .one 10 <| .one 11 <| .one 12 <| .one 13 <| .one 14 <| .one 15 <| .one 16 <| .one 17 <| .one 18 <| .one 19 <| .one 20 <| .one 21 <| .one 22 <| .one 23 <| .one 24 <| .one 25 <| .done
  | _=>.done
@[go_sem] theorem plan_368_4:pl_368 4=(.one 0 <| .one 1 <| .one 2 <| .one 3 <| .one 4 <| .one 5 <| .one 6 <| .one 7 <| .one 8 <| .one 9 <| .one 10 <| .one 11 <| .one 12 <| .one 13 <| .one 14 <| .one 15 <| .one 16 <| .one 17 <| .one 18 <| .one 19 <| .one 20 <| .one 21 <| .one 22 <| .one 23 <| .one 24 <| .one 25 <| .done):=id rfl
def tb_368 (n:Nat):List Row:=
  match n with
  | 4=>[⟨4096,16,0,1⟩,⟨8192,4096,1,2⟩,⟨16384,8192,2,0⟩,⟨32768,16384,4,0⟩,⟨65536,32768,12,0⟩,⟨131072,65552,16,1⟩,⟨262144,196608,48,2⟩,⟨524288,327680,80,0⟩,⟨1048576,589824,144,0⟩,⟨2097152,1114112,272,0⟩,⟨4194304,2097152,640,0⟩,⟨8388608,4194312,1024,0⟩,⟨16777216,12582912,3072,1⟩,⟨33554432,20971520,5120,0⟩,⟨67108864,33554433,8192,0⟩,⟨134217728,33554440,8192,0⟩,⟨268435456,167772160,40960,1⟩,⟨536870912,369098752,90112,1⟩,⟨1073741824,570425344,139264,1⟩,⟨2147483648,1107296256,270336,2⟩,⟨4294967296,33554448,8192,1⟩,⟨8589934592,4328521728,1056768,2⟩,⟨17179869184,10770972672,2629632,0⟩,⟨34359738368,17213423616,4202496,1⟩,⟨68719476736,34397487104,8397824,0⟩,⟨137438953472,68723671040,16778240,0⟩]
  | _=>[]
theorem enter_368:Ent 368 Tryz.f368 pl_368 [.tmp 2] 39:=ent tb_368 Tryz.func368 Tryz.results368 Tryz.ntmps368 (by kernel_rfl)
theorem enter_369:Ent 369 Tryz.f369 pl0 [.tmp 2] 6:=ent tb0 Tryz.func369 Tryz.results369 Tryz.ntmps369 (by kernel_rfl)
theorem enter_370:Ent 370 Tryz.f370 pl0 [.tmp 2] 19:=ent tb0 Tryz.func370 Tryz.results370 Tryz.ntmps370 (by kernel_rfl)
def pl_371 (n:Nat):Plan:=
  match n with
  | 12=>.one 0 <| .one 1 <| .one 2 <| .one 3 <| .one 4 <| .one 5 <| .one 6 <| .one 7 <| .one 8 <| .one 9 <| .one 10 <| .one 11 <| .one 12 <| .one 13 <| .one 14 <| .one 15 <| .one 16 <| .done
  | _=>.done
@[go_sem] theorem plan_371_12:pl_371 12=(.one 0 <| .one 1 <| .one 2 <| .one 3 <| .one 4 <| .one 5 <| .one 6 <| .one 7 <| .one 8 <| .one 9 <| .one 10 <| .one 11 <| .one 12 <| .one 13 <| .one 14 <| .one 15 <| .one 16 <| .done):=id rfl
def tb_371 (n:Nat):List Row:=
  match n with
  | 12=>[⟨9007199254740992,256,0,2⟩,⟨18014398509481984,9007199254740992,1,0⟩,⟨36028797018963968,18014398509481984,2,0⟩,⟨72057594037927936,36028797018963968,6,0⟩,⟨144115188075855872,72057594037928064,8,0⟩,⟨288230376151711744,216172782113783808,24,1⟩,⟨576460752303423488,360287970189639680,40,0⟩,⟨1152921504606846976,576460752303423490,64,0⟩,⟨2305843009213693952,576460752303423616,64,0⟩,⟨4611686018427387904,2882303761517117440,320,1⟩,⟨9223372036854775808,6341068275337658368,704,1⟩,⟨18446744073709551616,9799832789158199296,1088,2⟩,⟨36893488147419103232,576460752303423744,64,2⟩,⟨73786976294838206464,55916692973432078336,6208,0⟩,⟨147573952589676412928,74363437047141629952,8256,1⟩,⟨295147905179352825856,148222470936017764352,16456,0⟩,⟨590295810358705651712,295219962773390753792,32776,0⟩]
  | _=>[]
theorem enter_371:Ent 371 Tryz.f371 pl_371 [.tmp 4] 71:=ent tb_371 Tryz.func371 Tryz.results371 Tryz.ntmps371 (by kernel_rfl)
def pl_372 (n:Nat):Plan:=
  match n with
  | 4=>.one 0 <| .one 1 <| .one 2 <| .one 3 <| .one 4 <| .one 5 <| .one 6 <| .one 7 <| .one 8 <| .one 9 <| .one 10 <| .one 11 <| .one 12 <| .one 13 <| .one 14 <| .one 15 <| .one 16 <| .one 17 <| .one 18 <| .done
  | _=>.done
@[go_sem] theorem plan_372_4:pl_372 4=(.one 0 <| .one 1 <| .one 2 <| .one 3 <| .one 4 <| .one 5 <| .one 6 <| .one 7 <| .one 8 <| .one 9 <| .one 10 <| .one 11 <| .one 12 <| .one 13 <| .one 14 <| .one 15 <| .one 16 <| .one 17 <| .one 18 <| .done):=id rfl
def tb_372 (n:Nat):List Row:=
  match n with
  | 4=>[⟨4096,16,0,2⟩,⟨8192,4096,1,0⟩,⟨16384,8192,2,0⟩,⟨32768,16384,6,0⟩,⟨65536,32776,8,0⟩,⟨131072,98304,24,1⟩,⟨262144,163840,40,0⟩,⟨524288,262145,64,0⟩,⟨1048576,262152,64,0⟩,⟨2097152,1310720,320,1⟩,⟨4194304,2883584,704,1⟩,⟨8388608,4456448,1088,1⟩,⟨16777216,8650752,2112,2⟩,⟨33554432,262160,64,1⟩,⟨67108864,33816576,8256,2⟩,⟨134217728,84148224,20544,0⟩,⟨268435456,134479872,32832,1⟩,⟨536870912,268730368,65608,0⟩,⟨1073741824,536903680,131080,0⟩]
  | _=>[]
theorem enter_372:Ent 372 Tryz.f372 pl_372 [.tmp 2] 32:=ent tb_372 Tryz.func372 Tryz.results372 Tryz.ntmps372 (by kernel_rfl)
end Go.Proofs.YtdlfmajopcbllaaGreat
