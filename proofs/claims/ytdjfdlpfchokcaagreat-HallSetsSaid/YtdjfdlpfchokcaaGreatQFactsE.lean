/-
Facts of the program, printed by a program of mine: walks.
No conditions.
-/
import Derived.Test.YtdjfdlpfchokcaaGreatQFactsT
import Derived.Test.YtdjfdlpfchokcaaGreatQEngW
set_option linter.unusedSectionVars false
set_option linter.unusedSimpArgs false
set_option linter.unusedVariables false
namespace Go.Proofs.YtdjfdlpfchokcaaGreat
open Go Go.Eng
set_option maxRecDepth 20000
variable [Toks]
theorem enter_133 : Ent 133 Tryz.f133 pl0 [.tmp 2] 9 := ent tb0 Tryz.func133 Tryz.results133 Tryz.ntmps133 (by kernel_rfl)
theorem enter_135 : Ent 135 Tryz.f135 pl0 [.tmp 6, .tmp 7] 42 := ent tb0 Tryz.func135 Tryz.results135 Tryz.ntmps135 (by kernel_rfl)
theorem enter_136 : Ent 136 Tryz.f136 pl0 [.tmp 4] 17 := ent tb0 Tryz.func136 Tryz.results136 Tryz.ntmps136 (by kernel_rfl)
theorem enter_137 : Ent 137 Tryz.f137 pl0 [.tmp 2] 6 := ent tb0 Tryz.func137 Tryz.results137 Tryz.ntmps137 (by kernel_rfl)
theorem enter_143 : Ent 143 Tryz.f143 pl0 [.tmp 2] 6 := ent tb0 Tryz.func143 Tryz.results143 Tryz.ntmps143 (by kernel_rfl)
theorem enter_163 : Ent 163 Tryz.f163 pl0 [.tmp 2] 6 := ent tb0 Tryz.func163 Tryz.results163 Tryz.ntmps163 (by kernel_rfl)
theorem enter_164 : Ent 164 Tryz.f164 pl0 [.tmp 2] 20 := ent tb0 Tryz.func164 Tryz.results164 Tryz.ntmps164 (by kernel_rfl)
theorem enter_165 : Ent 165 Tryz.f165 pl0 [.tmp 2] 18 := ent tb0 Tryz.func165 Tryz.results165 Tryz.ntmps165 (by kernel_rfl)
def pl_166 (n : Nat) : Plan :=
 match n with
 | 4 => .one 0 <| .one 1 <| .one 2 <| .one 3 <| .one 4 <| .one 5 <| .one 6 <| .one 7 <| .one 8 <| .one 9 <| .one 10 <| .one 11 <| .one 12 <| .one 13 <| .one 14 <| .one 15 <| .one 16 <| .one 17 <| .one 18 <| .one 19 <| .one 20 <| .one 21 <| .one 22 <| .one 23 <| .one 24 <| .one 25 <| .done
 | _ => .done
@[go_sem] theorem plan_166_4 : pl_166 4 = (.one 0 <| .one 1 <| .one 2 <| .one 3 <| .one 4 <| .one 5 <| .one 6 <| .one 7 <| .one 8 <| .one 9 <| .one 10 <| .one 11 <| .one 12 <| .one 13 <| .one 14 <| .one 15 <| .one 16 <| .one 17 <| .one 18 <| .one 19 <| .one 20 <| .one 21 <| .one 22 <| .one 23 <| .one 24 <| .one 25 <| .done) := id rfl
def tb_166 (n : Nat) : List Row :=
 match n with
 | 4 => [⟨4096, 16, 0, 1⟩, ⟨8192, 4096, 1, 2⟩, ⟨16384, 8192, 2, 0⟩, ⟨32768, 16384, 4, 0⟩, ⟨65536, 32768, 12, 0⟩, ⟨131072, 65552, 16, 1⟩, ⟨262144, 196608, 48, 2⟩, ⟨524288, 327680, 80, 0⟩, ⟨1048576, 589824, 144, 0⟩, ⟨2097152, 1114112, 272, 0⟩, ⟨4194304, 2097152, 640, 0⟩, ⟨8388608, 4194312, 1024, 0⟩, ⟨16777216, 12582912, 3072, 1⟩, ⟨33554432, 20971520, 5120, 0⟩, ⟨67108864, 33554433, 8192, 0⟩, ⟨134217728, 33554440, 8192, 0⟩, ⟨268435456, 167772160, 40960, 1⟩, ⟨536870912, 369098752, 90112, 1⟩, ⟨1073741824, 570425344, 139264, 1⟩, ⟨2147483648, 1107296256, 270336, 2⟩, ⟨4294967296, 33554448, 8192, 1⟩, ⟨8589934592, 4328521728, 1056768, 2⟩, ⟨17179869184, 10770972672, 2629632, 0⟩, ⟨34359738368, 17213423616, 4202496, 1⟩, ⟨68719476736, 34397487104, 8397824, 0⟩, ⟨137438953472, 68723671040, 16778240, 0⟩]
 | _ => []
theorem enter_166 : Ent 166 Tryz.f166 pl_166 [.tmp 2] 39 := ent tb_166 Tryz.func166 Tryz.results166 Tryz.ntmps166 (by kernel_rfl)
theorem enter_167 : Ent 167 Tryz.f167 pl0 [.tmp 2] 11 := ent tb0 Tryz.func167 Tryz.results167 Tryz.ntmps167 (by kernel_rfl)
def pl_168 (n : Nat) : Plan :=
 match n with
 | 4 => .one 0 <| .one 1 <| .one 2 <| .one 3 <| .one 4 <| .one 5 <| .alt 6 [] (.done) <| .none
 | _ => .done
@[go_sem] theorem plan_168_4 : pl_168 4 = (.one 0 <| .one 1 <| .one 2 <| .one 3 <| .one 4 <| .one 5 <| .alt 6 [] (.done) <| .none) := id rfl
def tb_168 (n : Nat) : List Row :=
 match n with
 | 4 => [⟨32768, 8, 0, 1⟩, ⟨65536, 2, 0, 1⟩, ⟨131072, 65536, 2, 2⟩, ⟨262144, 163840, 5, 1⟩, ⟨524288, 2, 0, 1⟩, ⟨1048576, 524288, 16, 1⟩, ⟨2097152, 1310720, 40, 5⟩]
 | _ => []
theorem enter_168 : Ent 168 Tryz.f168 pl_168 [.tmp 2] 25 := ent tb_168 Tryz.func168 Tryz.results168 Tryz.ntmps168 (by kernel_rfl)
def pl_169 (n : Nat) : Plan :=
 match n with
 | 1 => .one 0 <| .one 1 <| .one 2 <| .one 3 <| .one 4 <| .one 5 <| .one 6 <| .one 7 <| .one 8 <| .one 9 <| .one 10 <| .one 11 <| .one 12 <| .one 13 <| .one 14 <| .one 15 <| .one 16 <| .one 17 <| .done
 | _ => .done
@[go_sem] theorem plan_169_1 : pl_169 1 = (.one 0 <| .one 1 <| .one 2 <| .one 3 <| .one 4 <| .one 5 <| .one 6 <| .one 7 <| .one 8 <| .one 9 <| .one 10 <| .one 11 <| .one 12 <| .one 13 <| .one 14 <| .one 15 <| .one 16 <| .one 17 <| .done) := id rfl
def tb_169 (n : Nat) : List Row :=
 match n with
 | 1 => [⟨8, 2, 0, 1⟩, ⟨16, 8, 1, 2⟩, ⟨32, 16, 2, 1⟩, ⟨64, 32, 4, 0⟩, ⟨128, 66, 8, 1⟩, ⟨256, 192, 24, 2⟩, ⟨512, 320, 40, 1⟩, ⟨1024, 576, 72, 0⟩, ⟨2048, 1024, 136, 0⟩, ⟨4096, 2050, 256, 1⟩, ⟨8192, 2050, 256, 1⟩, ⟨16384, 10240, 1280, 2⟩, ⟨32768, 22528, 2816, 1⟩, ⟨65536, 34816, 4352, 2⟩, ⟨131072, 2050, 256, 2⟩, ⟨262144, 198656, 24832, 1⟩, ⟨524288, 264192, 33024, 0⟩, ⟨4, 524288, 131071, 0⟩]
 | _ => []
theorem enter_169 : Ent 169 Tryz.f169 pl_169 [.tmp 2] 20 := ent tb_169 Tryz.func169 Tryz.results169 Tryz.ntmps169 (by kernel_rfl)
def pl_170 (n : Nat) : Plan :=
 match n with
 | 1 => .one 0 <| .one 1 <| .one 2 <| .one 3 <| .one 4 <| .one 5 <| .done
 | _ => .done
@[go_sem] theorem plan_170_1 : pl_170 1 = (.one 0 <| .one 1 <| .one 2 <| .one 3 <| .one 4 <| .one 5 <| .done) := id rfl
def tb_170 (n : Nat) : List Row :=
 match n with
 | 1 => [⟨32, 4, 0, 2⟩, ⟨64, 32, 1, 0⟩, ⟨128, 8, 0, 2⟩, ⟨256, 128, 6, 0⟩, ⟨512, 320, 10, 0⟩, ⟨16, 512, 31, 0⟩]
 | _ => []
theorem enter_170 : Ent 170 Tryz.f170 pl_170 [.tmp 4] 10 := ent tb_170 Tryz.func170 Tryz.results170 Tryz.ntmps170 (by kernel_rfl)
theorem enter_171 : Ent 171 Tryz.f171 pl0 [.cell 2 127] 12 := ent tb0 Tryz.func171 Tryz.results171 Tryz.ntmps171 (by kernel_rfl)
theorem enter_173 : Ent 173 Tryz.f173 pl0 [.tmp 2] 11 := ent tb0 Tryz.func173 Tryz.results173 Tryz.ntmps173 (by kernel_rfl)
theorem enter_176 : Ent 176 Tryz.f176 pl0 [.tmp 2] 6 := ent tb0 Tryz.func176 Tryz.results176 Tryz.ntmps176 (by kernel_rfl)
theorem enter_177 : Ent 177 Tryz.f177 pl0 [.tmp 2] 19 := ent tb0 Tryz.func177 Tryz.results177 Tryz.ntmps177 (by kernel_rfl)
theorem enter_178 : Ent 178 Tryz.f178 pl0 [.tmp 2] 18 := ent tb0 Tryz.func178 Tryz.results178 Tryz.ntmps178 (by kernel_rfl)
def pl_179 (n : Nat) : Plan :=
 match n with
 | 12 => .one 0 <| .one 1 <| .one 2 <| .one 3 <| .one 4 <| .one 5 <| .one 6 <| .one 7 <| .one 8 <| .one 9 <| .one 10 <| .one 11 <| .one 12 <| .one 13 <| .one 14 <| .one 15 <| .one 16 <| .done
 | _ => .done
@[go_sem] theorem plan_179_12 : pl_179 12 = (.one 0 <| .one 1 <| .one 2 <| .one 3 <| .one 4 <| .one 5 <| .one 6 <| .one 7 <| .one 8 <| .one 9 <| .one 10 <| .one 11 <| .one 12 <| .one 13 <| .one 14 <| .one 15 <| .one 16 <| .done) := id rfl
def tb_179 (n : Nat) : List Row :=
 match n with
 | 12 => [⟨9007199254740992, 256, 0, 2⟩, ⟨18014398509481984, 9007199254740992, 1, 0⟩, ⟨36028797018963968, 18014398509481984, 2, 0⟩, ⟨72057594037927936, 36028797018963968, 6, 0⟩, ⟨144115188075855872, 72057594037928064, 8, 0⟩, ⟨288230376151711744, 216172782113783808, 24, 1⟩, ⟨576460752303423488, 360287970189639680, 40, 0⟩, ⟨1152921504606846976, 576460752303423490, 64, 0⟩, ⟨2305843009213693952, 576460752303423616, 64, 0⟩, ⟨4611686018427387904, 2882303761517117440, 320, 1⟩, ⟨9223372036854775808, 6341068275337658368, 704, 1⟩, ⟨18446744073709551616, 9799832789158199296, 1088, 2⟩, ⟨36893488147419103232, 576460752303423744, 64, 2⟩, ⟨73786976294838206464, 55916692973432078336, 6208, 0⟩, ⟨147573952589676412928, 74363437047141629952, 8256, 1⟩, ⟨295147905179352825856, 148222470936017764352, 16456, 0⟩, ⟨590295810358705651712, 295219962773390753792, 32776, 0⟩]
 | _ => []
theorem enter_179 : Ent 179 Tryz.f179 pl_179 [.tmp 4] 71 := ent tb_179 Tryz.func179 Tryz.results179 Tryz.ntmps179 (by kernel_rfl)
def pl_180 (n : Nat) : Plan :=
 match n with
 | 4 => .one 0 <| .one 1 <| .one 2 <| .one 3 <| .one 4 <| .one 5 <| .one 6 <| .one 7 <| .one 8 <| .one 9 <| .one 10 <| .one 11 <| .one 12 <| .one 13 <| .one 14 <| .one 15 <| .one 16 <| .one 17 <| .one 18 <| .done
 | _ => .done
@[go_sem] theorem plan_180_4 : pl_180 4 = (.one 0 <| .one 1 <| .one 2 <| .one 3 <| .one 4 <| .one 5 <| .one 6 <| .one 7 <| .one 8 <| .one 9 <| .one 10 <| .one 11 <| .one 12 <| .one 13 <| .one 14 <| .one 15 <| .one 16 <| .one 17 <| .one 18 <| .done) := id rfl
def tb_180 (n : Nat) : List Row :=
 match n with
 | 4 => [⟨4096, 16, 0, 2⟩, ⟨8192, 4096, 1, 0⟩, ⟨16384, 8192, 2, 0⟩, ⟨32768, 16384, 6, 0⟩, ⟨65536, 32776, 8, 0⟩, ⟨131072, 98304, 24, 1⟩, ⟨262144, 163840, 40, 0⟩, ⟨524288, 262145, 64, 0⟩, ⟨1048576, 262152, 64, 0⟩, ⟨2097152, 1310720, 320, 1⟩, ⟨4194304, 2883584, 704, 1⟩, ⟨8388608, 4456448, 1088, 1⟩, ⟨16777216, 8650752, 2112, 2⟩, ⟨33554432, 262160, 64, 1⟩, ⟨67108864, 33816576, 8256, 2⟩, ⟨134217728, 84148224, 20544, 0⟩, ⟨268435456, 134479872, 32832, 1⟩, ⟨536870912, 268730368, 65608, 0⟩, ⟨1073741824, 536903680, 131080, 0⟩]
 | _ => []
theorem enter_180 : Ent 180 Tryz.f180 pl_180 [.tmp 2] 32 := ent tb_180 Tryz.func180 Tryz.results180 Tryz.ntmps180 (by kernel_rfl)
theorem enter_181 : Ent 181 Tryz.f181 pl0 [.tmp 2] 26 := ent tb0 Tryz.func181 Tryz.results181 Tryz.ntmps181 (by kernel_rfl)
theorem enter_182 : Ent 182 Tryz.f182 pl0 [.tmp 4] 8 := ent tb0 Tryz.func182 Tryz.results182 Tryz.ntmps182 (by kernel_rfl)
theorem enter_183 : Ent 183 Tryz.f183 pl0 [.tmp 2] 39 := ent tb0 Tryz.func183 Tryz.results183 Tryz.ntmps183 (by kernel_rfl)
end Go.Proofs.YtdjfdlpfchokcaaGreat
