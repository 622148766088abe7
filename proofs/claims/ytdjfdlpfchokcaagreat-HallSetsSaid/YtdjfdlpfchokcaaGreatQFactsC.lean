/-
Facts of the program, printed by a program of mine: walks.
No conditions.
-/
import Derived.Test.YtdjfdlpfchokcaaGreatQFactsT
import Derived.Test.YtdjfdlpfchokcaaGreatQEngW
set_option linter.unusedSectionVars false
set_option linter.unusedSimpArgs false
set_option linter.unusedVariables false
namespace Go.Proofs.YtdjfdlpfchokcaaGreat
open Go Go.Eng
set_option maxRecDepth 20000
variable [Toks]
theorem enter_43 : Ent 43 Tryz.f43 pl0 [.tmp 2] 20 := ent tb0 Tryz.func43 Tryz.results43 Tryz.ntmps43 (by kernel_rfl)
theorem enter_44 : Ent 44 Tryz.f44 pl0 [.tmp 2] 22 := ent tb0 Tryz.func44 Tryz.results44 Tryz.ntmps44 (by kernel_rfl)
def pl_45 (n : Nat) : Plan :=
 match n with
 | 7 => .one 0 <| .one 1 <| .one 2 <| .one 3 <| .one 4 <| .one 5 <| .one 6 <| .done
 | _ => .done
@[go_sem] theorem plan_45_7 : pl_45 7 = (.one 0 <| .one 1 <| .one 2 <| .one 3 <| .one 4 <| .one 5 <| .one 6 <| .done) := id rfl
def tb_45 (n : Nat) : List Row :=
 match n with
 | 7 => [⟨2097152, 1, 0, 0⟩, ⟨4194304, 2097152, 1, 1⟩, ⟨8388608, 4194304, 2, 1⟩, ⟨16777216, 8388608, 4, 2⟩, ⟨33554432, 8, 0, 2⟩, ⟨67108864, 50331648, 24, 2⟩, ⟨16, 67108864, 63, 0⟩]
 | _ => []
theorem enter_45 : Ent 45 Tryz.f45 pl_45 [.tmp 4] 27 := ent tb_45 Tryz.func45 Tryz.results45 Tryz.ntmps45 (by kernel_rfl)
theorem enter_46 : Ent 46 Tryz.f46 pl0 [.tmp 2] 23 := ent tb0 Tryz.func46 Tryz.results46 Tryz.ntmps46 (by kernel_rfl)
def pl_47 (n : Nat) : Plan :=
 match n with
 | 1 => .one 0 <| .one 1 <| .one 2 <| .one 3 <| .one 4 <| .one 5 <| .one 6 <| .one 7 <| .one 8 <| .one 9 <| .done
 | _ => .done
@[go_sem] theorem plan_47_1 : pl_47 1 = (.one 0 <| .one 1 <| .one 2 <| .one 3 <| .one 4 <| .one 5 <| .one 6 <| .one 7 <| .one 8 <| .one 9 <| .done) := id rfl
def tb_47 (n : Nat) : List Row :=
 match n with
 | 1 => [⟨8, 1, 0, 0⟩, ⟨16, 8, 1, 1⟩, ⟨32, 16, 2, 1⟩, ⟨64, 32, 4, 2⟩, ⟨128, 64, 8, 1⟩, ⟨256, 1, 0, 0⟩, ⟨512, 256, 32, 2⟩, ⟨1024, 512, 64, 1⟩, ⟨2048, 1152, 144, 1⟩, ⟨4, 2048, 511, 0⟩]
 | _ => []
theorem enter_47 : Ent 47 Tryz.f47 pl_47 [.tmp 2] 12 := ent tb_47 Tryz.func47 Tryz.results47 Tryz.ntmps47 (by kernel_rfl)
theorem enter_48 : Ent 48 Tryz.f48 pl0 [.cell 0 93] 2 := ent tb0 Tryz.func48 Tryz.results48 Tryz.ntmps48 (by kernel_rfl)
def pl_49 (n : Nat) : Plan :=
 match n with
 | 3 => .one 0 <| .one 1 <| .one 2 <| .one 3 <| .one 4 <| .done
 | 5 => .one 0 <| .one 1 <| .one 2 <| .one 3 <| .one 4 <| .done
 | 6 => .one 0 <| .one 1 <| .one 2 <| .one 3 <| .one 4 <| .one 5 <| .one 6 <| .one 7 <| .one 9 <| .alt 8 [9] (.alt 10 [] (.one 11 <| .done) <| .none) <| .none
 | 8 => .one 0 <| .one 1 <| .one 2 <| .one 3 <| .alt 4 [] (.done) <| .none
 | _ => .done
@[go_sem] theorem plan_49_3 : pl_49 3 = (.one 0 <| .one 1 <| .one 2 <| .one 3 <| .one 4 <| .done) := id rfl
@[go_sem] theorem plan_49_5 : pl_49 5 = (.one 0 <| .one 1 <| .one 2 <| .one 3 <| .one 4 <| .done) := id rfl
@[go_sem] theorem plan_49_6 : pl_49 6 = (.one 0 <| .one 1 <| .one 2 <| .one 3 <| .one 4 <| .one 5 <| .one 6 <| .one 7 <| .one 9 <| .alt 8 [9] (.alt 10 [] (.one 11 <| .done) <| .none) <| .none) := id rfl
@[go_sem] theorem plan_49_8 : pl_49 8 = (.one 0 <| .one 1 <| .one 2 <| .one 3 <| .alt 4 [] (.done) <| .none) := id rfl
def tb_49 (n : Nat) : List Row :=
 match n with
 | 3 => [⟨1024, 2, 0, 1⟩, ⟨2048, 1024, 1, 2⟩, ⟨4096, 2048, 2, 1⟩, ⟨16, 0, 0, 0⟩, ⟨32, 4096, 15, 0⟩]
 | 5 => [⟨32768, 2, 0, 1⟩, ⟨65536, 32768, 1, 2⟩, ⟨131072, 65536, 2, 1⟩, ⟨16, 0, 0, 0⟩, ⟨32, 131072, 15, 0⟩]
 | 6 => [⟨262144, 16, 0, 0⟩, ⟨524288, 32, 0, 0⟩, ⟨1048576, 524288, 2, 2⟩, ⟨2097152, 2, 0, 1⟩, ⟨4194304, 2097152, 8, 2⟩, ⟨8388608, 4194304, 16, 1⟩, ⟨16777216, 8388608, 32, 2⟩, ⟨33554432, 18087936, 69, 0⟩, ⟨67108864, 33554432, 128, 5⟩, ⟨134217728, 2, 0, 2⟩, ⟨268435456, 201326592, 768, 5⟩, ⟨64, 268435456, 2047, 0⟩]
 | 8 => [⟨17179869184, 64, 0, 0⟩, ⟨34359738368, 17179869184, 1, 1⟩, ⟨68719476736, 64, 0, 0⟩, ⟨137438953472, 68719476736, 4, 2⟩, ⟨274877906944, 171798691840, 10, 5⟩]
 | _ => []
theorem enter_49 : Ent 49 Tryz.f49 pl_49 [.tmp 2, .tmp 3] 40 := ent tb_49 Tryz.func49 Tryz.results49 Tryz.ntmps49 (by kernel_rfl)
theorem enter_50 : Ent 50 Tryz.f50 pl0 [.tmp 6] 25 := ent tb0 Tryz.func50 Tryz.results50 Tryz.ntmps50 (by kernel_rfl)
theorem enter_51 : Ent 51 Tryz.f51 pl0 [.tmp 4, .tmp 5] 22 := ent tb0 Tryz.func51 Tryz.results51 Tryz.ntmps51 (by kernel_rfl)
theorem enter_52 : Ent 52 Tryz.f52 pl0 [.tmp 2] 9 := ent tb0 Tryz.func52 Tryz.results52 Tryz.ntmps52 (by kernel_rfl)
def pl_53 (n : Nat) : Plan :=
 match n with
 | 2 => .one 0 <| .one 1 <| .one 2 <| .one 3 <| .one 4 <| .one 5 <| .one 6 <| .one 7 <| .one 8 <| .one 9 <| .one 10 <| .one 11 <| .one 12 <| .one 13 <| .one 14 <| .one 15 <| .one 16 <| .one 17 <| .one 18 <| .one 19 <| .one 20 <| .one 21 <| .one 22 <| .one 23 <| .one 24 <| .one 25 <| .done
 | _ => .done
@[go_sem] theorem plan_53_2 : pl_53 2 = (.one 0 <| .one 1 <| .one 2 <| .one 3 <| .one 4 <| .one 5 <| .one 6 <| .one 7 <| .one 8 <| .one 9 <| .one 10 <| .one 11 <| .one 12 <| .one 13 <| .one 14 <| .one 15 <| .one 16 <| .one 17 <| .one 18 <| .one 19 <| .one 20 <| .one 21 <| .one 22 <| .one 23 <| .one 24 <| .one 25 <| .done) := id rfl
def tb_53 (n : Nat) : List Row :=
 match n with
 | 2 => [⟨1024, 8, 0, 1⟩, ⟨2048, 1024, 1, 2⟩, ⟨4096, 2048, 2, 0⟩, ⟨8192, 4096, 4, 0⟩, ⟨16384, 8193, 8, 0⟩, ⟨32768, 8200, 8, 1⟩, ⟨65536, 40960, 40, 2⟩, ⟨131072, 90112, 88, 2⟩, ⟨262144, 139264, 136, 0⟩, ⟨524288, 270336, 264, 0⟩, ⟨1048576, 524288, 640, 0⟩, ⟨2097152, 1048608, 1024, 0⟩, ⟨4194304, 3145728, 3072, 1⟩, ⟨8388608, 5242880, 5120, 0⟩, ⟨16777216, 8388609, 8192, 0⟩, ⟨33554432, 25165824, 24576, 1⟩, ⟨67108864, 41943040, 40960, 1⟩, ⟨134217728, 75497472, 73728, 2⟩, ⟨268435456, 8388640, 8192, 0⟩, ⟨536870912, 411041792, 401408, 1⟩, ⟨1073741824, 545259520, 532480, 2⟩, ⟨2147483648, 8388616, 8192, 2⟩, ⟨4294967296, 3229614080, 3153920, 1⟩, ⟨8589934592, 4304404480, 4203520, 0⟩, ⟨17179869184, 8590983168, 8389632, 0⟩, ⟨16, 17179869184, 33554431, 0⟩]
 | _ => []
theorem enter_53 : Ent 53 Tryz.f53 pl_53 [.tmp 4] 35 := ent tb_53 Tryz.func53 Tryz.results53 Tryz.ntmps53 (by kernel_rfl)
theorem enter_54 : Ent 54 Tryz.f54 pl0 [.tmp 4] 19 := ent tb0 Tryz.func54 Tryz.results54 Tryz.ntmps54 (by kernel_rfl)
theorem enter_55 : Ent 55 Tryz.f55 pl0 [] 21 := ent tb0 Tryz.func55 Tryz.results55 Tryz.ntmps55 (by kernel_rfl)
theorem enter_56 : Ent 56 Tryz.f56 pl0 [.tmp 4] 47 := ent tb0 Tryz.func56 Tryz.results56 Tryz.ntmps56 (by kernel_rfl)
def pl_57 (n : Nat) : Plan :=
 match n with
 | 2 => .one 0 <| .one 1 <| .one 2 <| .one 3 <| .one 4 <| .one 5 <| .one 6 <| .alt 7 [] (.one 8 <| .one 9 <| .alt 10 [] (.done) <| .none) <| .none
 | _ => .done
@[go_sem] theorem plan_57_2 : pl_57 2 = (.one 0 <| .one 1 <| .one 2 <| .one 3 <| .one 4 <| .one 5 <| .one 6 <| .alt 7 [] (.one 8 <| .one 9 <| .alt 10 [] (.done) <| .none) <| .none) := id rfl
def tb_57 (n : Nat) : List Row :=
 match n with
 | 2 => [⟨512, 1, 0, 0⟩, ⟨1024, 1, 0, 0⟩, ⟨2048, 1024, 2, 1⟩, ⟨4096, 2048, 4, 1⟩, ⟨8192, 4096, 8, 2⟩, ⟨16384, 8, 0, 2⟩, ⟨32768, 16384, 32, 0⟩, ⟨65536, 40960, 80, 5⟩, ⟨131072, 512, 255, 1⟩, ⟨262144, 131072, 511, 1⟩, ⟨0, 327680, 767, 4⟩]
 | _ => []
theorem enter_57 : Ent 57 Tryz.f57 pl_57 [] 19 := ent tb_57 Tryz.func57 Tryz.results57 Tryz.ntmps57 (by kernel_rfl)
def pl_58 (n : Nat) : Plan :=
 match n with
 | 4 => .one 0 <| .one 1 <| .one 2 <| .one 3 <| .one 4 <| .one 5 <| .one 6 <| .one 7 <| .one 8 <| .alt 9 [] (.done) <| .none
 | _ => .done
@[go_sem] theorem plan_58_4 : pl_58 4 = (.one 0 <| .one 1 <| .one 2 <| .one 3 <| .one 4 <| .one 5 <| .one 6 <| .one 7 <| .one 8 <| .alt 9 [] (.done) <| .none) := id rfl
def tb_58 (n : Nat) : List Row :=
 match n with
 | 4 => [⟨2097152, 1, 0, 0⟩, ⟨4194304, 2097152, 1, 1⟩, ⟨8388608, 4194304, 2, 1⟩, ⟨16777216, 8388608, 4, 2⟩, ⟨33554432, 2, 0, 0⟩, ⟨67108864, 33554432, 16, 1⟩, ⟨134217728, 67108864, 32, 1⟩, ⟨268435456, 134217728, 64, 2⟩, ⟨536870912, 16, 0, 0⟩, ⟨0, 822083584, 511, 5⟩]
 | _ => []
theorem enter_58 : Ent 58 Tryz.f58 pl_58 [] 31 := ent tb_58 Tryz.func58 Tryz.results58 Tryz.ntmps58 (by kernel_rfl)
def pl_59 (n : Nat) : Plan :=
 match n with
 | 5 => .one 0 <| .one 1 <| .one 2 <| .one 3 <| .one 4 <| .one 5 <| .done
 | 8 => .one 0 <| .one 1 <| .one 2 <| .one 3 <| .one 4 <| .one 5 <| .one 6 <| .one 9 <| .one 10 <| .one 7 <| .one 8 <| .one 11 <| .one 12 <| .alt 13 [] (.alt 14 [12, 11, 8, 7] (.one 15 <| .one 16 <| .done) <| .none) <| .none
 | _ => .done
@[go_sem] theorem plan_59_5 : pl_59 5 = (.one 0 <| .one 1 <| .one 2 <| .one 3 <| .one 4 <| .one 5 <| .done) := id rfl
@[go_sem] theorem plan_59_8 : pl_59 8 = (.one 0 <| .one 1 <| .one 2 <| .one 3 <| .one 4 <| .one 5 <| .one 6 <| .one 9 <| .one 10 <| .one 7 <| .one 8 <| .one 11 <| .one 12 <| .alt 13 [] (.alt 14 [12, 11, 8, 7] (.one 15 <| .one 16 <| .done) <| .none) <| .none) := id rfl
def tb_59 (n : Nat) : List Row :=
 match n with
 | 5 => [⟨524288, 16, 0, 0⟩, ⟨1048576, 524288, 1, 2⟩, ⟨2097152, 1, 0, 0⟩, ⟨4194304, 2097152, 4, 1⟩, ⟨8388608, 5242880, 10, 2⟩, ⟨16777216, 8388608, 16, 0⟩]
 | 8 => [⟨536870912, 1, 0, 0⟩, ⟨1073741824, 536870912, 1, 1⟩, ⟨2147483648, 1073741824, 2, 2⟩, ⟨4294967296, 2147483648, 4, 1⟩, ⟨8589934592, 4294967296, 8, 0⟩, ⟨17179869184, 1, 0, 0⟩, ⟨34359738368, 17179869184, 32, 1⟩, ⟨68719476736, 34359738368, 64, 2⟩, ⟨137438953472, 68719476736, 128, 2⟩, ⟨274877906944, 1, 0, 0⟩, ⟨549755813888, 274877906944, 512, 1⟩, ⟨1099511627776, 549755813888, 1024, 2⟩, ⟨2199023255552, 1099511627776, 2048, 2⟩, ⟨64, 0, 0, 3⟩, ⟨0, 8589934656, 8223, 4⟩, ⟨128, 137438953472, 25087, 0⟩, ⟨256, 2199023255552, 65535, 0⟩]
 | _ => []
theorem enter_59 : Ent 59 Tryz.f59 pl_59 [.cell 2 35, .tmp 3] 86 := ent tb_59 Tryz.func59 Tryz.results59 Tryz.ntmps59 (by kernel_rfl)
theorem enter_60 : Ent 60 Tryz.f60 pl0 [.tmp 6] 31 := ent tb0 Tryz.func60 Tryz.results60 Tryz.ntmps60 (by kernel_rfl)
def pl_61 (n : Nat) : Plan :=
 match n with
 | 1 => .one 0 <| .one 1 <| .one 2 <| .one 3 <| .one 4 <| .one 5 <| .one 6 <| .one 7 <| .one 8 <| .one 9 <| .one 10 <| .one 11 <| .one 12 <| .alt 13 [] (.one 14 <| .alt 15 [] (.one 16 <| .alt 17 [] (.one 18 <| .alt 19 [] (.done) <| .none) <| .none) <| .none) <| .none
 | _ => .done
@[go_sem] theorem plan_61_1 : pl_61 1 = (.one 0 <| .one 1 <| .one 2 <| .one 3 <| .one 4 <| .one 5 <| .one 6 <| .one 7 <| .one 8 <| .one 9 <| .one 10 <| .one 11 <| .one 12 <| .alt 13 [] (.one 14 <| .alt 15 [] (.one 16 <| .alt 17 [] (.one 18 <| .alt 19 [] (.done) <| .none) <| .none) <| .none) <| .none) := id rfl
def tb_61 (n : Nat) : List Row :=
 match n with
 | 1 => [⟨8, 2, 0, 1⟩, ⟨16, 8, 1, 2⟩, ⟨32, 16, 2, 2⟩, ⟨64, 2, 0, 1⟩, ⟨128, 64, 8, 2⟩, ⟨256, 128, 20, 2⟩, ⟨512, 2, 0, 1⟩, ⟨1024, 512, 64, 2⟩, ⟨2048, 1024, 160, 2⟩, ⟨4096, 2, 0, 1⟩, ⟨8192, 4096, 512, 2⟩, ⟨16384, 8192, 1280, 2⟩, ⟨32768, 2, 1759, 1⟩, ⟨0, 32800, 7903, 4⟩, ⟨65536, 2, 14079, 1⟩, ⟨0, 65792, 30463, 4⟩, ⟨131072, 2, 63487, 1⟩, ⟨0, 133120, 129023, 4⟩, ⟨262144, 2, 262143, 1⟩, ⟨0, 278528, 524287, 4⟩]
 | _ => []
theorem enter_61 : Ent 61 Tryz.f61 pl_61 [.cell 2 35] 20 := ent tb_61 Tryz.func61 Tryz.results61 Tryz.ntmps61 (by kernel_rfl)
theorem enter_62 : Ent 62 Tryz.f62 pl0 [.tmp 2] 9 := ent tb0 Tryz.func62 Tryz.results62 Tryz.ntmps62 (by kernel_rfl)
theorem enter_63 : Ent 63 Tryz.f63 pl0 [.tmp 4] 9 := ent tb0 Tryz.func63 Tryz.results63 Tryz.ntmps63 (by kernel_rfl)
theorem enter_64 : Ent 64 Tryz.f64 pl0 [.tmp 4] 30 := ent tb0 Tryz.func64 Tryz.results64 Tryz.ntmps64 (by kernel_rfl)
theorem enter_65 : Ent 65 Tryz.f65 pl0 [.tmp 6] 29 := ent tb0 Tryz.func65 Tryz.results65 Tryz.ntmps65 (by kernel_rfl)
def pl_67 (n : Nat) : Plan :=
 match n with
 | 8 => .one 0 <| .one 1 <| .one 2 <| .one 3 <| .one 4 <| .one 5 <| .one 6 <| .one 7 <| .one 8 <| .done
 | _ => .done
@[go_sem] theorem plan_67_8 : pl_67 8 = (.one 0 <| .one 1 <| .one 2 <| .one 3 <| .one 4 <| .one 5 <| .one 6 <| .one 7 <| .one 8 <| .done) := id rfl
def tb_67 (n : Nat) : List Row :=
 match n with
 | 8 => [⟨8589934592, 1, 0, 0⟩, ⟨17179869184, 2048, 0, 0⟩, ⟨34359738368, 25769803776, 3, 1⟩, ⟨68719476736, 34359738368, 4, 1⟩, ⟨137438953472, 68719476736, 8, 2⟩, ⟨274877906944, 8, 0, 1⟩, ⟨549755813888, 274877906944, 32, 2⟩, ⟨1099511627776, 687194767360, 80, 0⟩, ⟨4096, 1099511627776, 255, 0⟩]
 | _ => []
theorem enter_67 : Ent 67 Tryz.f67 pl_67 [.tmp 4] 77 := ent tb_67 Tryz.func67 Tryz.results67 Tryz.ntmps67 (by kernel_rfl)
theorem enter_68 : Ent 68 Tryz.f68 pl0 [.cell 2 123] 93 := ent tb0 Tryz.func68 Tryz.results68 Tryz.ntmps68 (by kernel_rfl)
theorem enter_69 : Ent 69 Tryz.f69 pl0 [.cell 2 127] 38 := ent tb0 Tryz.func69 Tryz.results69 Tryz.ntmps69 (by kernel_rfl)
def pl_70 (n : Nat) : Plan :=
 match n with
 | 5 => .one 0 <| .one 1 <| .one 2 <| .one 3 <| .one 4 <| .one 5 <| .one 6 <| .one 7 <| .one 8 <| .one 9 <| .one 10 <| .one 11 <| .one 12 <| .one 13 <| .one 14 <| .one 15 <| .one 16 <| .done
 | _ => .done
@[go_sem] theorem plan_70_5 : pl_70 5 = (.one 0 <| .one 1 <| .one 2 <| .one 3 <| .one 4 <| .one 5 <| .one 6 <| .one 7 <| .one 8 <| .one 9 <| .one 10 <| .one 11 <| .one 12 <| .one 13 <| .one 14 <| .one 15 <| .one 16 <| .done) := id rfl
def tb_70 (n : Nat) : List Row :=
 match n with
 | 5 => [⟨2048, 8, 0, 0⟩, ⟨4096, 2048, 1, 1⟩, ⟨8192, 1, 0, 0⟩, ⟨16384, 16, 0, 0⟩, ⟨32768, 24576, 12, 1⟩, ⟨65536, 32768, 16, 1⟩, ⟨131072, 65536, 32, 1⟩, ⟨262144, 131072, 64, 2⟩, ⟨524288, 266240, 130, 1⟩, ⟨1048576, 1, 0, 0⟩, ⟨2097152, 16, 0, 0⟩, ⟨4194304, 3145728, 1536, 1⟩, ⟨8388608, 4194304, 2048, 1⟩, ⟨16777216, 8388608, 4096, 1⟩, ⟨33554432, 16777216, 8192, 2⟩, ⟨67108864, 34078720, 16640, 1⟩, ⟨8, 67108864, 65535, 0⟩]
 | _ => []
theorem enter_70 : Ent 70 Tryz.f70 pl_70 [.tmp 2] 28 := ent tb_70 Tryz.func70 Tryz.results70 Tryz.ntmps70 (by kernel_rfl)
theorem enter_71 : Ent 71 Tryz.f71 pl0 [.tmp 2] 9 := ent tb0 Tryz.func71 Tryz.results71 Tryz.ntmps71 (by kernel_rfl)
theorem enter_72 : Ent 72 Tryz.f72 pl0 [.tmp 2] 6 := ent tb0 Tryz.func72 Tryz.results72 Tryz.ntmps72 (by kernel_rfl)
theorem enter_73 : Ent 73 Tryz.f73 pl0 [.tmp 2] 6 := ent tb0 Tryz.func73 Tryz.results73 Tryz.ntmps73 (by kernel_rfl)
theorem enter_74 : Ent 74 Tryz.f74 pl0 [.tmp 4] 9 := ent tb0 Tryz.func74 Tryz.results74 Tryz.ntmps74 (by kernel_rfl)
theorem enter_75 : Ent 75 Tryz.f75 pl0 [.tmp 2] 8 := ent tb0 Tryz.func75 Tryz.results75 Tryz.ntmps75 (by kernel_rfl)
theorem enter_76 : Ent 76 Tryz.f76 pl0 [.tmp 4] 19 := ent tb0 Tryz.func76 Tryz.results76 Tryz.ntmps76 (by kernel_rfl)
def pl_77 (n : Nat) : Plan :=
 match n with
 | 5 => .one 0 <| .one 1 <| .one 2 <| .one 3 <| .one 4 <| .one 5 <| .alt 6 [] (.one 7 <| .done) <| .none
 | _ => .done
@[go_sem] theorem plan_77_5 : pl_77 5 = (.one 0 <| .one 1 <| .one 2 <| .one 3 <| .one 4 <| .one 5 <| .alt 6 [] (.one 7 <| .done) <| .none) := id rfl
def tb_77 (n : Nat) : List Row :=
 match n with
 | 5 => [⟨1048576, 1, 0, 0⟩, ⟨2097152, 2, 0, 0⟩, ⟨4194304, 3145728, 3, 1⟩, ⟨8388608, 1, 0, 0⟩, ⟨16777216, 4, 0, 0⟩, ⟨33554432, 25165824, 24, 1⟩, ⟨67108864, 37748736, 36, 5⟩, ⟨1, 67108864, 127, 0⟩]
 | _ => []
theorem enter_77 : Ent 77 Tryz.f77 pl_77 [.tmp 6] 33 := ent tb_77 Tryz.func77 Tryz.results77 Tryz.ntmps77 (by kernel_rfl)
theorem enter_78 : Ent 78 Tryz.f78 pl0 [.tmp 4] 11 := ent tb0 Tryz.func78 Tryz.results78 Tryz.ntmps78 (by kernel_rfl)
def pl_79 (n : Nat) : Plan :=
 match n with
 | 5 => .one 0 <| .one 1 <| .one 2 <| .one 3 <| .one 4 <| .one 5 <| .alt 6 [] (.one 7 <| .done) <| .none
 | _ => .done
@[go_sem] theorem plan_79_5 : pl_79 5 = (.one 0 <| .one 1 <| .one 2 <| .one 3 <| .one 4 <| .one 5 <| .alt 6 [] (.one 7 <| .done) <| .none) := id rfl
def tb_79 (n : Nat) : List Row :=
 match n with
 | 5 => [⟨1048576, 1, 0, 0⟩, ⟨2097152, 2, 0, 0⟩, ⟨4194304, 3145728, 3, 1⟩, ⟨8388608, 1, 0, 0⟩, ⟨16777216, 4, 0, 0⟩, ⟨33554432, 25165824, 24, 1⟩, ⟨67108864, 37748736, 36, 5⟩, ⟨1, 67108864, 127, 0⟩]
 | _ => []
theorem enter_79 : Ent 79 Tryz.f79 pl_79 [.tmp 6] 33 := ent tb_79 Tryz.func79 Tryz.results79 Tryz.ntmps79 (by kernel_rfl)
theorem enter_80 : Ent 80 Tryz.f80 pl0 [.tmp 2] 48 := ent tb0 Tryz.func80 Tryz.results80 Tryz.ntmps80 (by kernel_rfl)
def pl_81 (n : Nat) : Plan :=
 match n with
 | 7 => .one 0 <| .one 1 <| .one 2 <| .one 3 <| .one 4 <| .one 5 <| .alt 6 [5, 3] (.alt 7 [5] (.alt 8 [] (.done) <| .none) <| .none) <| .none
 | 11 => .one 0 <| .one 1 <| .alt 2 [1] (.alt 3 [1] (.alt 4 [] (.done) <| .none) <| .none) <| .none
 | _ => .done
@[go_sem] theorem plan_81_7 : pl_81 7 = (.one 0 <| .one 1 <| .one 2 <| .one 3 <| .one 4 <| .one 5 <| .alt 6 [5, 3] (.alt 7 [5] (.alt 8 [] (.done) <| .none) <| .none) <| .none) := id rfl
@[go_sem] theorem plan_81_11 : pl_81 11 = (.one 0 <| .one 1 <| .alt 2 [1] (.alt 3 [1] (.alt 4 [] (.done) <| .none) <| .none) <| .none) := id rfl
def tb_81 (n : Nat) : List Row :=
 match n with
 | 7 => [⟨1073741824, 1024, 0, 0⟩, ⟨2147483648, 1024, 0, 0⟩, ⟨4294967296, 2147483648, 2, 1⟩, ⟨8589934592, 512, 0, 2⟩, ⟨17179869184, 12884901888, 12, 1⟩, ⟨34359738368, 256, 0, 2⟩, ⟨0, 1073741888, 1, 4⟩, ⟨0, 17179869312, 95, 4⟩, ⟨0, 34359738624, 255, 4⟩]
 | 11 => [⟨1125899906842624, 4, 0, 0⟩, ⟨2251799813685248, 256, 0, 2⟩, ⟨0, 64, 0, 4⟩, ⟨0, 1125899906842752, 5, 4⟩, ⟨0, 2251799813685504, 15, 4⟩]
 | _ => []
theorem enter_82 : Ent 82 Tryz.f82 pl0 [.tmp 4] 22 := ent tb0 Tryz.func82 Tryz.results82 Tryz.ntmps82 (by kernel_rfl)
theorem enter_83 : Ent 83 Tryz.f83 pl0 [.tmp 4] 9 := ent tb0 Tryz.func83 Tryz.results83 Tryz.ntmps83 (by kernel_rfl)
end Go.Proofs.YtdjfdlpfchokcaaGreat
