/-
Facts of the program, printed by a program of mine: walks.
No conditions.
-/
import Derived.Test.YtdjfdlpfchokcaaGreatQFactsT
import Derived.Test.YtdjfdlpfchokcaaGreatQEngW
set_option linter.unusedSectionVars false
set_option linter.unusedSimpArgs false
set_option linter.unusedVariables false
namespace Go.Proofs.YtdjfdlpfchokcaaGreat
open Go Go.Eng
set_option maxRecDepth 20000
variable [Toks]
theorem enter_84 : Ent 84 Tryz.f84 pl0 [.tmp 2] 8 := ent tb0 Tryz.func84 Tryz.results84 Tryz.ntmps84 (by kernel_rfl)
theorem enter_85 : Ent 85 Tryz.f85 pl0 [.tmp 3] 8 := ent tb0 Tryz.func85 Tryz.results85 Tryz.ntmps85 (by kernel_rfl)
theorem enter_86 : Ent 86 Tryz.f86 pl0 [.tmp 4] 41 := ent tb0 Tryz.func86 Tryz.results86 Tryz.ntmps86 (by kernel_rfl)
def pl_87 (n : Nat) : Plan :=
 match n with
 | 4 => .one 0 <| .one 1 <| .one 2 <| .one 3 <| .one 4 <| .one 5 <| .one 6 <| .one 8 <| .one 9 <| .one 10 <| .one 11 <| .one 12 <| .one 13 <| .alt 7 [13, 12, 11, 10, 9, 8] (.alt 14 [] (.one 15 <| .done) <| .none) <| .none
 | 19 => .one 0 <| .one 1 <| .one 2 <| .one 3 <| .one 4 <| .one 6 <| .one 7 <| .one 9 <| .one 10 <| .one 11 <| .one 12 <| .one 13 <| .one 14 <| .alt 5 [14, 13, 12, 11, 10, 9, 7, 6] (.alt 8 [14, 13, 12, 11, 10, 9] (.alt 15 [] (.one 16 <| .done) <| .none) <| .none) <| .none
 | _ => .done
@[go_sem] theorem plan_87_4 : pl_87 4 = (.one 0 <| .one 1 <| .one 2 <| .one 3 <| .one 4 <| .one 5 <| .one 6 <| .one 8 <| .one 9 <| .one 10 <| .one 11 <| .one 12 <| .one 13 <| .alt 7 [13, 12, 11, 10, 9, 8] (.alt 14 [] (.one 15 <| .done) <| .none) <| .none) := id rfl
@[go_sem] theorem plan_87_19 : pl_87 19 = (.one 0 <| .one 1 <| .one 2 <| .one 3 <| .one 4 <| .one 6 <| .one 7 <| .one 9 <| .one 10 <| .one 11 <| .one 12 <| .one 13 <| .one 14 <| .alt 5 [14, 13, 12, 11, 10, 9, 7, 6] (.alt 8 [14, 13, 12, 11, 10, 9] (.alt 15 [] (.one 16 <| .done) <| .none) <| .none) <| .none) := id rfl
def tb_87 (n : Nat) : List Row :=
 match n with
 | 4 => [⟨1048576, 1, 0, 0⟩, ⟨2097152, 64, 0, 1⟩, ⟨4194304, 2097152, 2, 1⟩, ⟨8388608, 64, 0, 1⟩, ⟨16777216, 8388608, 8, 1⟩, ⟨33554432, 16777216, 16, 2⟩, ⟨67108864, 37748736, 36, 1⟩, ⟨134217728, 68157440, 65, 5⟩, ⟨268435456, 64, 0, 1⟩, ⟨536870912, 268435456, 256, 1⟩, ⟨1073741824, 64, 0, 1⟩, ⟨2147483648, 1073741824, 1024, 1⟩, ⟨4294967296, 2147483648, 2048, 2⟩, ⟨8589934592, 4831838208, 4608, 1⟩, ⟨17179869184, 8724152320, 8320, 5⟩, ⟨1, 17179869184, 32767, 0⟩]
 | 19 => [⟨590295810358705651712, 1, 0, 0⟩, ⟨1180591620717411303424, 4096, 0, 1⟩, ⟨2361183241434822606848, 1180591620717411303424, 2, 2⟩, ⟨4722366482869645213696, 2361183241434822606848, 4, 2⟩, ⟨9444732965739290427392, 4722366482869645213696, 8, 0⟩, ⟨18889465931478580854784, 10035028776097996079104, 17, 5⟩, ⟨37778931862957161709568, 4096, 0, 1⟩, ⟨75557863725914323419136, 37778931862957161709568, 64, 2⟩, ⟨151115727451828646838272, 94447329657392904273920, 160, 5⟩, ⟨302231454903657293676544, 4096, 0, 1⟩, ⟨604462909807314587353088, 302231454903657293676544, 512, 1⟩, ⟨1208925819614629174706176, 4096, 0, 1⟩, ⟨2417851639229258349412352, 1208925819614629174706176, 2048, 1⟩, ⟨4835703278458516698824704, 2417851639229258349412352, 4096, 2⟩, ⟨9671406556917033397649408, 5440166188265831286177792, 9216, 1⟩, ⟨19342813113834066795298816, 9822522284368862044487680, 16640, 5⟩, ⟨1, 19342813113834066795298816, 65535, 0⟩]
 | _ => []
theorem enter_87 : Ent 87 Tryz.f87 pl_87 [.tmp 4] 105 := ent tb_87 Tryz.func87 Tryz.results87 Tryz.ntmps87 (by kernel_rfl)
theorem enter_88 : Ent 88 Tryz.f88 pl0 [.tmp 2] 7 := ent tb0 Tryz.func88 Tryz.results88 Tryz.ntmps88 (by kernel_rfl)
theorem enter_89 : Ent 89 Tryz.f89 pl0 [.tmp 4] 25 := ent tb0 Tryz.func89 Tryz.results89 Tryz.ntmps89 (by kernel_rfl)
theorem enter_90 : Ent 90 Tryz.f90 pl0 [.tmp 4] 11 := ent tb0 Tryz.func90 Tryz.results90 Tryz.ntmps90 (by kernel_rfl)
theorem enter_91 : Ent 91 Tryz.f91 pl0 [.tmp 2] 9 := ent tb0 Tryz.func91 Tryz.results91 Tryz.ntmps91 (by kernel_rfl)
theorem enter_92 : Ent 92 Tryz.f92 pl0 [.tmp 4] 19 := ent tb0 Tryz.func92 Tryz.results92 Tryz.ntmps92 (by kernel_rfl)
def pl_93 (n : Nat) : Plan :=
 match n with
 | 5 => .one 0 <| .one 1 <| .one 2 <| .one 3 <| .one 4 <| .one 5 <| .alt 6 [] (.one 7 <| .done) <| .none
 | _ => .done
@[go_sem] theorem plan_93_5 : pl_93 5 = (.one 0 <| .one 1 <| .one 2 <| .one 3 <| .one 4 <| .one 5 <| .alt 6 [] (.one 7 <| .done) <| .none) := id rfl
def tb_93 (n : Nat) : List Row :=
 match n with
 | 5 => [⟨1048576, 1, 0, 0⟩, ⟨2097152, 2, 0, 0⟩, ⟨4194304, 3145728, 3, 1⟩, ⟨8388608, 1, 0, 0⟩, ⟨16777216, 4, 0, 0⟩, ⟨33554432, 25165824, 24, 1⟩, ⟨67108864, 37748736, 36, 5⟩, ⟨1, 67108864, 127, 0⟩]
 | _ => []
theorem enter_93 : Ent 93 Tryz.f93 pl_93 [.tmp 6] 33 := ent tb_93 Tryz.func93 Tryz.results93 Tryz.ntmps93 (by kernel_rfl)
theorem enter_95 : Ent 95 Tryz.f95 pl0 [.tmp 4] 10 := ent tb0 Tryz.func95 Tryz.results95 Tryz.ntmps95 (by kernel_rfl)
theorem enter_96 : Ent 96 Tryz.f96 pl0 [.tmp 4] 16 := ent tb0 Tryz.func96 Tryz.results96 Tryz.ntmps96 (by kernel_rfl)
theorem enter_97 : Ent 97 Tryz.f97 pl0 [.cell 2 146] 8 := ent tb0 Tryz.func97 Tryz.results97 Tryz.ntmps97 (by kernel_rfl)
theorem enter_98 : Ent 98 Tryz.f98 pl0 [.tmp 4] 16 := ent tb0 Tryz.func98 Tryz.results98 Tryz.ntmps98 (by kernel_rfl)
theorem enter_99 : Ent 99 Tryz.f99 pl0 [.tmp 2] 6 := ent tb0 Tryz.func99 Tryz.results99 Tryz.ntmps99 (by kernel_rfl)
theorem enter_100 : Ent 100 Tryz.f100 pl0 [.tmp 4] 16 := ent tb0 Tryz.func100 Tryz.results100 Tryz.ntmps100 (by kernel_rfl)
theorem enter_101 : Ent 101 Tryz.f101 pl0 [.cell 2 123] 10 := ent tb0 Tryz.func101 Tryz.results101 Tryz.ntmps101 (by kernel_rfl)
theorem enter_102 : Ent 102 Tryz.f102 pl0 [.tmp 4] 16 := ent tb0 Tryz.func102 Tryz.results102 Tryz.ntmps102 (by kernel_rfl)
theorem enter_103 : Ent 103 Tryz.f103 pl0 [.cell 2 131] 25 := ent tb0 Tryz.func103 Tryz.results103 Tryz.ntmps103 (by kernel_rfl)
theorem enter_108 : Ent 108 Tryz.f108 pl0 [] 33 := ent tb0 Tryz.func108 Tryz.results108 Tryz.ntmps108 (by kernel_rfl)
def pl_109 (n : Nat) : Plan :=
 match n with
 | 4 => .one 0 <| .one 1 <| .one 2 <| .one 3 <| .one 4 <| .one 5 <| .one 6 <| .done
 | _ => .done
@[go_sem] theorem plan_109_4 : pl_109 4 = (.one 0 <| .one 1 <| .one 2 <| .one 3 <| .one 4 <| .one 5 <| .one 6 <| .done) := id rfl
def tb_109 (n : Nat) : List Row :=
 match n with
 | 4 => [⟨8192, 1, 0, 0⟩, ⟨16384, 64, 0, 0⟩, ⟨32768, 24576, 3, 1⟩, ⟨65536, 32768, 4, 1⟩, ⟨131072, 65536, 8, 2⟩, ⟨262144, 8, 0, 2⟩, ⟨524288, 393216, 48, 1⟩]
 | _ => []
theorem enter_109 : Ent 109 Tryz.f109 pl_109 [.cell 4 127, .tmp 5] 26 := ent tb_109 Tryz.func109 Tryz.results109 Tryz.ntmps109 (by kernel_rfl)
theorem enter_110 : Ent 110 Tryz.f110 pl0 [.cell 6 127, .tmp 7] 26 := ent tb0 Tryz.func110 Tryz.results110 Tryz.ntmps110 (by kernel_rfl)
def pl_111 (n : Nat) : Plan :=
 match n with
 | 10 => .one 0 <| .one 1 <| .one 2 <| .one 3 <| .one 4 <| .one 5 <| .one 6 <| .one 7 <| .one 8 <| .one 9 <| .done
 | 12 => .one 0 <| .one 1 <| .one 2 <| .one 3 <| .one 4 <| .one 5 <| .one 6 <| .one 7 <| .one 8 <| .one 9 <| .done
 | _ => .done
@[go_sem] theorem plan_111_10 : pl_111 10 = (.one 0 <| .one 1 <| .one 2 <| .one 3 <| .one 4 <| .one 5 <| .one 6 <| .one 7 <| .one 8 <| .one 9 <| .done) := id rfl
@[go_sem] theorem plan_111_12 : pl_111 12 = (.one 0 <| .one 1 <| .one 2 <| .one 3 <| .one 4 <| .one 5 <| .one 6 <| .one 7 <| .one 8 <| .one 9 <| .done) := id rfl
def tb_111 (n : Nat) : List Row :=
 match n with
 | 10 => [⟨4294967296, 32, 0, 0⟩, ⟨8589934592, 4, 0, 1⟩, ⟨17179869184, 12884901888, 3, 1⟩, ⟨34359738368, 17179869184, 4, 2⟩, ⟨68719476736, 32, 0, 0⟩, ⟨137438953472, 8, 0, 1⟩, ⟨274877906944, 206158430208, 48, 1⟩, ⟨549755813888, 274877906944, 64, 2⟩, ⟨1099511627776, 584115552256, 136, 1⟩, ⟨2147483648, 1099511627776, 256, 0⟩]
 | 12 => [⟨4398046511104, 32, 0, 0⟩, ⟨8796093022208, 4, 0, 1⟩, ⟨17592186044416, 13194139533312, 3, 1⟩, ⟨35184372088832, 17592186044416, 4, 2⟩, ⟨70368744177664, 32, 0, 0⟩, ⟨140737488355328, 8, 0, 1⟩, ⟨281474976710656, 211106232532992, 48, 1⟩, ⟨562949953421312, 281474976710656, 64, 2⟩, ⟨1125899906842624, 598134325510144, 136, 1⟩, ⟨2199023255552, 1125899906842624, 256, 0⟩]
 | _ => []
theorem enter_111 : Ent 111 Tryz.f111 pl_111 [.tmp 4] 51 := ent tb_111 Tryz.func111 Tryz.results111 Tryz.ntmps111 (by kernel_rfl)
theorem enter_112 : Ent 112 Tryz.f112 pl0 [.cell 2 123, .tmp 3] 27 := ent tb0 Tryz.func112 Tryz.results112 Tryz.ntmps112 (by kernel_rfl)
theorem enter_113 : Ent 113 Tryz.f113 pl0 [.cell 2 127, .tmp 3] 27 := ent tb0 Tryz.func113 Tryz.results113 Tryz.ntmps113 (by kernel_rfl)
theorem enter_114 : Ent 114 Tryz.f114 pl0 [.tmp 4] 19 := ent tb0 Tryz.func114 Tryz.results114 Tryz.ntmps114 (by kernel_rfl)
theorem enter_115 : Ent 115 Tryz.f115 pl0 [.tmp 3] 8 := ent tb0 Tryz.func115 Tryz.results115 Tryz.ntmps115 (by kernel_rfl)
theorem enter_116 : Ent 116 Tryz.f116 pl0 [.tmp 4] 12 := ent tb0 Tryz.func116 Tryz.results116 Tryz.ntmps116 (by kernel_rfl)
theorem enter_118 : Ent 118 Tryz.f118 pl0 [.tmp 4] 6 := ent tb0 Tryz.func118 Tryz.results118 Tryz.ntmps118 (by kernel_rfl)
theorem enter_120 : Ent 120 Tryz.f120 pl0 [.tmp 4] 13 := ent tb0 Tryz.func120 Tryz.results120 Tryz.ntmps120 (by kernel_rfl)
theorem enter_121 : Ent 121 Tryz.f121 pl0 [.tmp 6] 26 := ent tb0 Tryz.func121 Tryz.results121 Tryz.ntmps121 (by kernel_rfl)
theorem enter_123 : Ent 123 Tryz.f123 pl0 [.tmp 4] 19 := ent tb0 Tryz.func123 Tryz.results123 Tryz.ntmps123 (by kernel_rfl)
theorem enter_124 : Ent 124 Tryz.f124 pl0 [.tmp 3] 8 := ent tb0 Tryz.func124 Tryz.results124 Tryz.ntmps124 (by kernel_rfl)
theorem enter_125 : Ent 125 Tryz.f125 pl0 [.cell 2 127] 10 := ent tb0 Tryz.func125 Tryz.results125 Tryz.ntmps125 (by kernel_rfl)
def pl_126 (n : Nat) : Plan :=
 match n with
 | 1 => .one 0 <| .one 1 <| .one 2 <| .one 3 <| .one 4 <| .one 5 <| .one 6 <| .one 7 <| .one 8 <| .one 9 <| .one 10 <| .one 11 <| .one 12 <| .one 13 <| .one 14 <| .done
 | _ => .done
@[go_sem] theorem plan_126_1 : pl_126 1 = (.one 0 <| .one 1 <| .one 2 <| .one 3 <| .one 4 <| .one 5 <| .one 6 <| .one 7 <| .one 8 <| .one 9 <| .one 10 <| .one 11 <| .one 12 <| .one 13 <| .one 14 <| .done) := id rfl
def tb_126 (n : Nat) : List Row :=
 match n with
 | 1 => [⟨256, 1, 0, 0⟩, ⟨512, 256, 1, 1⟩, ⟨1024, 512, 2, 1⟩, ⟨2048, 1024, 4, 2⟩, ⟨4096, 1, 0, 0⟩, ⟨8192, 4096, 16, 1⟩, ⟨16384, 8192, 32, 1⟩, ⟨32768, 16384, 64, 2⟩, ⟨65536, 2, 0, 0⟩, ⟨131072, 100352, 392, 2⟩, ⟨128, 131072, 512, 0⟩, ⟨262144, 128, 1024, 0⟩, ⟨524288, 128, 1024, 0⟩, ⟨32, 262144, 4095, 0⟩, ⟨64, 524288, 16383, 0⟩]
 | _ => []
theorem enter_126 : Ent 126 Tryz.f126 pl_126 [.tmp 4] 40 := ent tb_126 Tryz.func126 Tryz.results126 Tryz.ntmps126 (by kernel_rfl)
def pl_127 (n : Nat) : Plan :=
 match n with
 | 2 => .one 0 <| .one 1 <| .one 2 <| .one 3 <| .one 4 <| .one 5 <| .one 6 <| .one 7 <| .one 8 <| .one 9 <| .one 10 <| .one 11 <| .one 12 <| .one 13 <| .one 14 <| .one 15 <| .one 16 <| .one 17 <| .done
 | 5 => .one 0 <| .one 1 <| .one 2 <| .one 3 <| .one 4 <| .one 5 <| .one 6 <| .one 7 <| .one 8 <| .one 9 <| .one 10 <| .one 11 <| .one 12 <| .one 13 <| .one 14 <| .one 15 <| .alt 16 [] (.done) <| .none
 | _ => .done
@[go_sem] theorem plan_127_2 : pl_127 2 = (.one 0 <| .one 1 <| .one 2 <| .one 3 <| .one 4 <| .one 5 <| .one 6 <| .one 7 <| .one 8 <| .one 9 <| .one 10 <| .one 11 <| .one 12 <| .one 13 <| .one 14 <| .one 15 <| .one 16 <| .one 17 <| .done) := id rfl
@[go_sem] theorem plan_127_5 : pl_127 5 = (.one 0 <| .one 1 <| .one 2 <| .one 3 <| .one 4 <| .one 5 <| .one 6 <| .one 7 <| .one 8 <| .one 9 <| .one 10 <| .one 11 <| .one 12 <| .one 13 <| .one 14 <| .one 15 <| .alt 16 [] (.done) <| .none) := id rfl
def tb_127 (n : Nat) : List Row :=
 match n with
 | 2 => [⟨512, 32, 0, 0⟩, ⟨1024, 2, 0, 0⟩, ⟨2048, 1024, 2, 1⟩, ⟨4096, 2560, 5, 1⟩, ⟨8192, 4096, 8, 0⟩, ⟨16384, 8224, 16, 0⟩, ⟨32768, 8193, 16, 0⟩, ⟨65536, 40960, 80, 1⟩, ⟨131072, 73728, 144, 1⟩, ⟨262144, 139264, 272, 2⟩, ⟨524288, 270336, 528, 1⟩, ⟨1048576, 8193, 16, 0⟩, ⟨2097152, 1056768, 2064, 1⟩, ⟨4194304, 2105344, 4112, 1⟩, ⟨8388608, 4202496, 8208, 2⟩, ⟨16777216, 8921088, 17424, 1⟩, ⟨33554432, 16801792, 32816, 1⟩, ⟨67108864, 33562624, 65552, 0⟩]
 | 5 => [⟨1073741824, 2, 0, 0⟩, ⟨2147483648, 1, 0, 0⟩, ⟨4294967296, 2147483648, 2, 1⟩, ⟨8589934592, 4294967296, 4, 1⟩, ⟨17179869184, 8589934592, 8, 2⟩, ⟨34359738368, 1, 0, 0⟩, ⟨68719476736, 34359738368, 32, 1⟩, ⟨137438953472, 68719476736, 64, 1⟩, ⟨274877906944, 137438953472, 128, 2⟩, ⟨549755813888, 1, 0, 0⟩, ⟨1099511627776, 549755813888, 512, 1⟩, ⟨2199023255552, 1099511627776, 1024, 1⟩, ⟨4398046511104, 2199023255552, 2048, 2⟩, ⟨8796093022208, 32, 0, 0⟩, ⟨17592186044416, 13194139533312, 12288, 1⟩, ⟨35184372088832, 17884243820544, 16656, 1⟩, ⟨70368744177664, 35185445830656, 32769, 5⟩]
 | _ => []
theorem enter_127 : Ent 127 Tryz.f127 pl_127 [.tmp 4] 56 := ent tb_127 Tryz.func127 Tryz.results127 Tryz.ntmps127 (by kernel_rfl)
theorem enter_128 : Ent 128 Tryz.f128 pl0 [.tmp 4, .tmp 5] 54 := ent tb0 Tryz.func128 Tryz.results128 Tryz.ntmps128 (by kernel_rfl)
def pl_129 (n : Nat) : Plan :=
 match n with
 | 11 => .one 0 <| .one 1 <| .one 2 <| .one 3 <| .one 4 <| .one 5 <| .one 6 <| .one 7 <| .alt 8 [] (.done) <| .none
 | 15 => .one 0 <| .one 1 <| .one 2 <| .one 3 <| .one 4 <| .one 5 <| .one 6 <| .one 7 <| .alt 8 [] (.done) <| .none
 | _ => .done
def tb_129 (n : Nat) : List Row :=
 match n with
 | 11 => [⟨70368744177664, 512, 0, 0⟩, ⟨140737488355328, 2, 0, 0⟩, ⟨281474976710656, 128, 0, 0⟩, ⟨562949953421312, 422212465065984, 6, 1⟩, ⟨1125899906842624, 633318697598976, 9, 1⟩, ⟨2251799813685248, 1, 0, 0⟩, ⟨4503599627370496, 2, 0, 0⟩, ⟨9007199254740992, 6755399441055744, 96, 1⟩, ⟨18014398509481984, 10133099161583616, 144, 5⟩]
 | 15 => [⟨590295810358705651712, 1, 0, 0⟩, ⟨1180591620717411303424, 2, 0, 0⟩, ⟨2361183241434822606848, 128, 0, 0⟩, ⟨4722366482869645213696, 3541774862152233910272, 6, 1⟩, ⟨9444732965739290427392, 5312662293228350865408, 9, 1⟩, ⟨18889465931478580854784, 1, 0, 0⟩, ⟨37778931862957161709568, 2, 0, 0⟩, ⟨75557863725914323419136, 56668397794435742564352, 96, 1⟩, ⟨151115727451828646838272, 85002596691653613846528, 144, 5⟩]
 | _ => []
theorem enter_129 : Ent 129 Tryz.f129 pl_129 [.tmp 6] 95 := ent tb_129 Tryz.func129 Tryz.results129 Tryz.ntmps129 (by kernel_rfl)
end Go.Proofs.YtdjfdlpfchokcaaGreat
