/-
Facts of the program, printed by a program of mine: walks.
No conditions.
-/
import Derived.Test.YtpcnblbjidiapaaGreatQFactsT
import Derived.Test.YtpcnblbjidiapaaGreatQEngW
set_option linter.unusedSectionVars false
set_option linter.unusedSimpArgs false
set_option linter.unusedVariables false
namespace Go.Proofs.YtpcnblbjidiapaaGreat
open Go Go.Eng
set_option maxRecDepth 20000
variable [Toks]
theorem enter_7 : Ent 7 Tryz.f7 pl0 [.cell 2 34] 6 := ent tb0 Tryz.func7 Tryz.results7 Tryz.ntmps7 (by kernel_rfl)
theorem enter_13 : Ent 13 Tryz.f13 pl0 [.tmp 4] 38 := ent tb0 Tryz.func13 Tryz.results13 Tryz.ntmps13 (by kernel_rfl)
theorem enter_27 : Ent 27 Tryz.f27 pl0 [.tmp 4] 38 := ent tb0 Tryz.func27 Tryz.results27 Tryz.ntmps27 (by kernel_rfl)
theorem enter_31 : Ent 31 Tryz.f31 pl0 [.tmp 2] 20 := ent tb0 Tryz.func31 Tryz.results31 Tryz.ntmps31 (by kernel_rfl)
def pl_40 (n : Nat) : Plan :=
  match n with
  | 6 => .one 0 <| .one 1 <| .one 2 <| .one 3 <| .one 4 <| .one 5 <| .one 6 <| .one 7 <| .one 8 <| .done
  | _ => .done
@[go_sem] theorem plan_40_6 : pl_40 6 = (.one 0 <| .one 1 <| .one 2 <| .one 3 <| .one 4 <| .one 5 <| .one 6 <| .one 7 <| .one 8 <| .done) := id rfl
def tb_40 (n : Nat) : List Row :=
  match n with
  | 6 => [⟨131072, 1, 0, 0⟩, ⟨262144, 32, 0, 0⟩, ⟨524288, 393216, 3, 1⟩, ⟨1048576, 524288, 4, 2⟩, ⟨2097152, 2, 0, 0⟩, ⟨4194304, 32, 0, 0⟩, ⟨8388608, 6291456, 48, 1⟩, ⟨16777216, 8388608, 64, 2⟩, ⟨33554432, 17825792, 136, 1⟩]
  | _ => []
theorem enter_40 : Ent 40 Tryz.f40 pl_40 [.tmp 4] 26 := ent tb_40 Tryz.func40 Tryz.results40 Tryz.ntmps40 (by kernel_rfl)
def pl_41 (n : Nat) : Plan :=
  match n with
  | 6 => .one 0 <| .one 1 <| .one 2 <| .one 3 <| .one 4 <| .one 5 <| .one 6 <| .one 7 <| .one 8 <| .done
  | _ => .done
@[go_sem] theorem plan_41_6 : pl_41 6 = (.one 0 <| .one 1 <| .one 2 <| .one 3 <| .one 4 <| .one 5 <| .one 6 <| .one 7 <| .one 8 <| .done) := id rfl
def tb_41 (n : Nat) : List Row :=
  match n with
  | 6 => [⟨131072, 1, 0, 0⟩, ⟨262144, 32, 0, 0⟩, ⟨524288, 393216, 3, 1⟩, ⟨1048576, 524288, 4, 2⟩, ⟨2097152, 2, 0, 0⟩, ⟨4194304, 32, 0, 0⟩, ⟨8388608, 6291456, 48, 1⟩, ⟨16777216, 8388608, 64, 2⟩, ⟨33554432, 17825792, 136, 1⟩]
  | _ => []
theorem enter_41 : Ent 41 Tryz.f41 pl_41 [.tmp 4] 26 := ent tb_41 Tryz.func41 Tryz.results41 Tryz.ntmps41 (by kernel_rfl)
def pl_42 (n : Nat) : Plan :=
  match n with
  | 6 => .one 0 <| .one 1 <| .one 2 <| .one 3 <| .one 4 <| .one 5 <| .one 6 <| .one 7 <| .one 8 <| .done
  | _ => .done
@[go_sem] theorem plan_42_6 : pl_42 6 = (.one 0 <| .one 1 <| .one 2 <| .one 3 <| .one 4 <| .one 5 <| .one 6 <| .one 7 <| .one 8 <| .done) := id rfl
def tb_42 (n : Nat) : List Row :=
  match n with
  | 6 => [⟨131072, 1, 0, 0⟩, ⟨262144, 32, 0, 0⟩, ⟨524288, 393216, 3, 1⟩, ⟨1048576, 524288, 4, 2⟩, ⟨2097152, 2, 0, 0⟩, ⟨4194304, 32, 0, 0⟩, ⟨8388608, 6291456, 48, 1⟩, ⟨16777216, 8388608, 64, 2⟩, ⟨33554432, 17825792, 136, 1⟩]
  | _ => []
theorem enter_42 : Ent 42 Tryz.f42 pl_42 [.tmp 4] 26 := ent tb_42 Tryz.func42 Tryz.results42 Tryz.ntmps42 (by kernel_rfl)
def pl_43 (n : Nat) : Plan :=
  match n with
  | 6 => .one 0 <| .one 1 <| .one 2 <| .one 3 <| .one 4 <| .one 5 <| .one 6 <| .one 7 <| .one 8 <| .done
  | _ => .done
@[go_sem] theorem plan_43_6 : pl_43 6 = (.one 0 <| .one 1 <| .one 2 <| .one 3 <| .one 4 <| .one 5 <| .one 6 <| .one 7 <| .one 8 <| .done) := id rfl
def tb_43 (n : Nat) : List Row :=
  match n with
  | 6 => [⟨131072, 1, 0, 0⟩, ⟨262144, 32, 0, 0⟩, ⟨524288, 393216, 3, 1⟩, ⟨1048576, 524288, 4, 2⟩, ⟨2097152, 2, 0, 0⟩, ⟨4194304, 32, 0, 0⟩, ⟨8388608, 6291456, 48, 1⟩, ⟨16777216, 8388608, 64, 2⟩, ⟨33554432, 17825792, 136, 1⟩]
  | _ => []
theorem enter_43 : Ent 43 Tryz.f43 pl_43 [.tmp 4] 26 := ent tb_43 Tryz.func43 Tryz.results43 Tryz.ntmps43 (by kernel_rfl)
theorem enter_62 : Ent 62 Tryz.f62 pl0 [.tmp 4] 15 := ent tb0 Tryz.func62 Tryz.results62 Tryz.ntmps62 (by kernel_rfl)
def pl_63 (n : Nat) : Plan :=
  match n with
  | 8 => .one 0 <| .one 1 <| .one 2 <| .one 3 <| .one 4 <| .one 5 <| .one 6 <| .one 7 <| .one 8 <| .done
  | _ => .done
@[go_sem] theorem plan_63_8 : pl_63 8 = (.one 0 <| .one 1 <| .one 2 <| .one 3 <| .one 4 <| .one 5 <| .one 6 <| .one 7 <| .one 8 <| .done) := id rfl
def tb_63 (n : Nat) : List Row :=
  match n with
  | 8 => [⟨8589934592, 1, 0, 0⟩, ⟨17179869184, 2048, 0, 0⟩, ⟨34359738368, 25769803776, 3, 1⟩, ⟨68719476736, 34359738368, 4, 1⟩, ⟨137438953472, 68719476736, 8, 2⟩, ⟨274877906944, 8, 0, 1⟩, ⟨549755813888, 274877906944, 32, 2⟩, ⟨1099511627776, 687194767360, 80, 0⟩, ⟨4096, 1099511627776, 255, 0⟩]
  | _ => []
theorem enter_63 : Ent 63 Tryz.f63 pl_63 [.tmp 4] 77 := ent tb_63 Tryz.func63 Tryz.results63 Tryz.ntmps63 (by kernel_rfl)
theorem enter_64 : Ent 64 Tryz.f64 pl0 [.cell 2 122] 93 := ent tb0 Tryz.func64 Tryz.results64 Tryz.ntmps64 (by kernel_rfl)
theorem enter_65 : Ent 65 Tryz.f65 pl0 [.cell 2 126] 38 := ent tb0 Tryz.func65 Tryz.results65 Tryz.ntmps65 (by kernel_rfl)
def pl_66 (n : Nat) : Plan :=
  match n with
  | 5 => .one 0 <| .one 1 <| .one 2 <| .one 3 <| .one 4 <| .one 5 <| .one 6 <| .one 7 <| .one 8 <| .one 9 <| .one 10 <| .one 11 <| .one 12 <| .one 13 <| .one 14 <| .one 15 <| .one 16 <| .done
  | _ => .done
@[go_sem] theorem plan_66_5 : pl_66 5 = (.one 0 <| .one 1 <| .one 2 <| .one 3 <| .one 4 <| .one 5 <| .one 6 <| .one 7 <| .one 8 <| .one 9 <| .one 10 <| .one 11 <| .one 12 <| .one 13 <| .one 14 <| .one 15 <| .one 16 <| .done) := id rfl
def tb_66 (n : Nat) : List Row :=
  match n with
  | 5 => [⟨2048, 8, 0, 0⟩, ⟨4096, 2048, 1, 1⟩, ⟨8192, 1, 0, 0⟩, ⟨16384, 16, 0, 0⟩, ⟨32768, 24576, 12, 1⟩, ⟨65536, 32768, 16, 1⟩, ⟨131072, 65536, 32, 1⟩, ⟨262144, 131072, 64, 2⟩, ⟨524288, 266240, 130, 1⟩, ⟨1048576, 1, 0, 0⟩, ⟨2097152, 16, 0, 0⟩, ⟨4194304, 3145728, 1536, 1⟩, ⟨8388608, 4194304, 2048, 1⟩, ⟨16777216, 8388608, 4096, 1⟩, ⟨33554432, 16777216, 8192, 2⟩, ⟨67108864, 34078720, 16640, 1⟩, ⟨8, 67108864, 65535, 0⟩]
  | _ => []
theorem enter_66 : Ent 66 Tryz.f66 pl_66 [.tmp 2] 28 := ent tb_66 Tryz.func66 Tryz.results66 Tryz.ntmps66 (by kernel_rfl)
theorem enter_71 : Ent 71 Tryz.f71 pl0 [.tmp 2] 9 := ent tb0 Tryz.func71 Tryz.results71 Tryz.ntmps71 (by kernel_rfl)
theorem enter_72 : Ent 72 Tryz.f72 pl0 [.tmp 2] 6 := ent tb0 Tryz.func72 Tryz.results72 Tryz.ntmps72 (by kernel_rfl)
theorem enter_73 : Ent 73 Tryz.f73 pl0 [.tmp 2] 6 := ent tb0 Tryz.func73 Tryz.results73 Tryz.ntmps73 (by kernel_rfl)
theorem enter_81 : Ent 81 Tryz.f81 pl0 [.tmp 2] 8 := ent tb0 Tryz.func81 Tryz.results81 Tryz.ntmps81 (by kernel_rfl)
theorem enter_82 : Ent 82 Tryz.f82 pl0 [.tmp 2] 8 := ent tb0 Tryz.func82 Tryz.results82 Tryz.ntmps82 (by kernel_rfl)
theorem enter_91 : Ent 91 Tryz.f91 pl0 [.tmp 2] 8 := ent tb0 Tryz.func91 Tryz.results91 Tryz.ntmps91 (by kernel_rfl)
theorem enter_101 : Ent 101 Tryz.f101 pl0 [.tmp 2] 8 := ent tb0 Tryz.func101 Tryz.results101 Tryz.ntmps101 (by kernel_rfl)
theorem enter_102 : Ent 102 Tryz.f102 pl0 [.tmp 2] 8 := ent tb0 Tryz.func102 Tryz.results102 Tryz.ntmps102 (by kernel_rfl)
theorem enter_103 : Ent 103 Tryz.f103 pl0 [.tmp 2] 8 := ent tb0 Tryz.func103 Tryz.results103 Tryz.ntmps103 (by kernel_rfl)
def pl_104 (n : Nat) : Plan :=
  match n with
  | 4 => .one 0 <| .one 1 <| .one 2 <| .one 3 <| .one 4 <| .one 5 <| .one 6 <| .done
  | _ => .done
@[go_sem] theorem plan_104_4 : pl_104 4 = (.one 0 <| .one 1 <| .one 2 <| .one 3 <| .one 4 <| .one 5 <| .one 6 <| .done) := id rfl
def tb_104 (n : Nat) : List Row :=
  match n with
  | 4 => [⟨8192, 1, 0, 0⟩, ⟨16384, 64, 0, 0⟩, ⟨32768, 24576, 3, 1⟩, ⟨65536, 32768, 4, 1⟩, ⟨131072, 65536, 8, 2⟩, ⟨262144, 8, 0, 2⟩, ⟨524288, 393216, 48, 1⟩]
  | _ => []
theorem enter_104 : Ent 104 Tryz.f104 pl_104 [.cell 4 126, .tmp 5] 26 := ent tb_104 Tryz.func104 Tryz.results104 Tryz.ntmps104 (by kernel_rfl)
theorem enter_105 : Ent 105 Tryz.f105 pl0 [.cell 6 126, .tmp 7] 26 := ent tb0 Tryz.func105 Tryz.results105 Tryz.ntmps105 (by kernel_rfl)
def pl_106 (n : Nat) : Plan :=
  match n with
  | 10 => .one 0 <| .one 1 <| .one 2 <| .one 3 <| .one 4 <| .one 5 <| .one 6 <| .one 7 <| .one 8 <| .one 9 <| .done
  | 12 => .one 0 <| .one 1 <| .one 2 <| .one 3 <| .one 4 <| .one 5 <| .one 6 <| .one 7 <| .one 8 <| .one 9 <| .done
  | _ => .done
@[go_sem] theorem plan_106_10 : pl_106 10 = (.one 0 <| .one 1 <| .one 2 <| .one 3 <| .one 4 <| .one 5 <| .one 6 <| .one 7 <| .one 8 <| .one 9 <| .done) := id rfl
@[go_sem] theorem plan_106_12 : pl_106 12 = (.one 0 <| .one 1 <| .one 2 <| .one 3 <| .one 4 <| .one 5 <| .one 6 <| .one 7 <| .one 8 <| .one 9 <| .done) := id rfl
def tb_106 (n : Nat) : List Row :=
  match n with
  | 10 => [⟨4294967296, 32, 0, 0⟩, ⟨8589934592, 4, 0, 1⟩, ⟨17179869184, 12884901888, 3, 1⟩, ⟨34359738368, 17179869184, 4, 2⟩, ⟨68719476736, 32, 0, 0⟩, ⟨137438953472, 8, 0, 1⟩, ⟨274877906944, 206158430208, 48, 1⟩, ⟨549755813888, 274877906944, 64, 2⟩, ⟨1099511627776, 584115552256, 136, 1⟩, ⟨2147483648, 1099511627776, 256, 0⟩]
  | 12 => [⟨4398046511104, 32, 0, 0⟩, ⟨8796093022208, 4, 0, 1⟩, ⟨17592186044416, 13194139533312, 3, 1⟩, ⟨35184372088832, 17592186044416, 4, 2⟩, ⟨70368744177664, 32, 0, 0⟩, ⟨140737488355328, 8, 0, 1⟩, ⟨281474976710656, 211106232532992, 48, 1⟩, ⟨562949953421312, 281474976710656, 64, 2⟩, ⟨1125899906842624, 598134325510144, 136, 1⟩, ⟨2199023255552, 1125899906842624, 256, 0⟩]
  | _ => []
theorem enter_106 : Ent 106 Tryz.f106 pl_106 [.tmp 4] 51 := ent tb_106 Tryz.func106 Tryz.results106 Tryz.ntmps106 (by kernel_rfl)
theorem enter_107 : Ent 107 Tryz.f107 pl0 [.cell 2 122, .tmp 3] 27 := ent tb0 Tryz.func107 Tryz.results107 Tryz.ntmps107 (by kernel_rfl)
theorem enter_108 : Ent 108 Tryz.f108 pl0 [.cell 2 126, .tmp 3] 27 := ent tb0 Tryz.func108 Tryz.results108 Tryz.ntmps108 (by kernel_rfl)
theorem enter_119 : Ent 119 Tryz.f119 pl0 [.tmp 4] 8 := ent tb0 Tryz.func119 Tryz.results119 Tryz.ntmps119 (by kernel_rfl)
theorem enter_129 : Ent 129 Tryz.f129 pl0 [.tmp 6] 26 := ent tb0 Tryz.func129 Tryz.results129 Tryz.ntmps129 (by kernel_rfl)
theorem enter_130 : Ent 130 Tryz.f130 pl0 [.tmp 2] 5 := ent tb0 Tryz.func130 Tryz.results130 Tryz.ntmps130 (by kernel_rfl)
theorem enter_138 : Ent 138 Tryz.f138 pl0 [.tmp 4] 19 := ent tb0 Tryz.func138 Tryz.results138 Tryz.ntmps138 (by kernel_rfl)
theorem enter_144 : Ent 144 Tryz.f144 pl0 [.tmp 2] 8 := ent tb0 Tryz.func144 Tryz.results144 Tryz.ntmps144 (by kernel_rfl)
theorem enter_159 : Ent 159 Tryz.f159 pl0 [.tmp 2] 9 := ent tb0 Tryz.func159 Tryz.results159 Tryz.ntmps159 (by kernel_rfl)
theorem enter_160 : Ent 160 Tryz.f160 pl0 [.tmp 4] 30 := ent tb0 Tryz.func160 Tryz.results160 Tryz.ntmps160 (by kernel_rfl)
theorem enter_162 : Ent 162 Tryz.f162 pl0 [.tmp 6] 33 := ent tb0 Tryz.func162 Tryz.results162 Tryz.ntmps162 (by kernel_rfl)
theorem enter_169 : Ent 169 Tryz.f169 pl0 [.tmp 2] 18 := ent tb0 Tryz.func169 Tryz.results169 Tryz.ntmps169 (by kernel_rfl)
theorem enter_183 : Ent 183 Tryz.f183 pl0 [.cell 0 242] 26 := ent tb0 Tryz.func183 Tryz.results183 Tryz.ntmps183 (by kernel_rfl)
theorem enter_187 : Ent 187 Tryz.f187 pl0 [.tmp 2] 26 := ent tb0 Tryz.func187 Tryz.results187 Tryz.ntmps187 (by kernel_rfl)
theorem enter_192 : Ent 192 Tryz.f192 pl0 [.tmp 2] 18 := ent tb0 Tryz.func192 Tryz.results192 Tryz.ntmps192 (by kernel_rfl)
theorem enter_193 : Ent 193 Tryz.f193 pl0 [.tmp 2] 11 := ent tb0 Tryz.func193 Tryz.results193 Tryz.ntmps193 (by kernel_rfl)
theorem enter_197 : Ent 197 Tryz.f197 pl0 [.tmp 2] 39 := ent tb0 Tryz.func197 Tryz.results197 Tryz.ntmps197 (by kernel_rfl)
def pl_200 (n : Nat) : Plan :=
  match n with
  | 1 => .one 0 <| .one 1 <| .one 2 <| .one 3 <| .one 4 <| .one 5 <| .done
  | _ => .done
@[go_sem] theorem plan_200_1 : pl_200 1 = (.one 0 <| .one 1 <| .one 2 <| .one 3 <| .one 4 <| .one 5 <| .done) := id rfl
def tb_200 (n : Nat) : List Row :=
  match n with
  | 1 => [⟨32, 4, 0, 2⟩, ⟨64, 32, 1, 0⟩, ⟨128, 8, 0, 2⟩, ⟨256, 128, 6, 0⟩, ⟨512, 320, 10, 0⟩, ⟨16, 512, 31, 0⟩]
  | _ => []
theorem enter_200 : Ent 200 Tryz.f200 pl_200 [.tmp 4] 10 := ent tb_200 Tryz.func200 Tryz.results200 Tryz.ntmps200 (by kernel_rfl)
def pl_203 (n : Nat) : Plan :=
  match n with
  | 4 => .one 0 <| .one 1 <| .one 2 <| .one 3 <| .one 4 <| .one 5 <| .alt 6 [] (.done) <| .none
  | _ => .done
@[go_sem] theorem plan_203_4 : pl_203 4 = (.one 0 <| .one 1 <| .one 2 <| .one 3 <| .one 4 <| .one 5 <| .alt 6 [] (.done) <| .none) := id rfl
def tb_203 (n : Nat) : List Row :=
  match n with
  | 4 => [⟨32768, 8, 0, 1⟩, ⟨65536, 2, 0, 1⟩, ⟨131072, 65536, 2, 2⟩, ⟨262144, 163840, 5, 1⟩, ⟨524288, 2, 0, 1⟩, ⟨1048576, 524288, 16, 1⟩, ⟨2097152, 1310720, 40, 5⟩]
  | _ => []
theorem enter_203 : Ent 203 Tryz.f203 pl_203 [.tmp 2] 25 := ent tb_203 Tryz.func203 Tryz.results203 Tryz.ntmps203 (by kernel_rfl)
def pl_204 (n : Nat) : Plan :=
  match n with
  | 1 => .one 0 <| .one 1 <| .one 2 <| .one 3 <| .one 4 <| .one 5 <| .one 6 <| .one 7 <| .one 8 <| .one 9 <| .one 10 <| .one 11 <| .one 12 <| .one 13 <| .one 14 <| .one 15 <| .one 16 <| .one 17 <| .done
  | _ => .done
@[go_sem] theorem plan_204_1 : pl_204 1 = (.one 0 <| .one 1 <| .one 2 <| .one 3 <| .one 4 <| .one 5 <| .one 6 <| .one 7 <| .one 8 <| .one 9 <| .one 10 <| .one 11 <| .one 12 <| .one 13 <| .one 14 <| .one 15 <| .one 16 <| .one 17 <| .done) := id rfl
def tb_204 (n : Nat) : List Row :=
  match n with
  | 1 => [⟨8, 2, 0, 1⟩, ⟨16, 8, 1, 2⟩, ⟨32, 16, 2, 1⟩, ⟨64, 32, 4, 0⟩, ⟨128, 66, 8, 1⟩, ⟨256, 192, 24, 2⟩, ⟨512, 320, 40, 1⟩, ⟨1024, 576, 72, 0⟩, ⟨2048, 1024, 136, 0⟩, ⟨4096, 2050, 256, 1⟩, ⟨8192, 2050, 256, 1⟩, ⟨16384, 10240, 1280, 2⟩, ⟨32768, 22528, 2816, 1⟩, ⟨65536, 34816, 4352, 2⟩, ⟨131072, 2050, 256, 2⟩, ⟨262144, 198656, 24832, 1⟩, ⟨524288, 264192, 33024, 0⟩, ⟨4, 524288, 131071, 0⟩]
  | _ => []
theorem enter_204 : Ent 204 Tryz.f204 pl_204 [.tmp 2] 20 := ent tb_204 Tryz.func204 Tryz.results204 Tryz.ntmps204 (by kernel_rfl)
theorem enter_205 : Ent 205 Tryz.f205 pl0 [.tmp 4] 8 := ent tb0 Tryz.func205 Tryz.results205 Tryz.ntmps205 (by kernel_rfl)
theorem enter_206 : Ent 206 Tryz.f206 pl0 [.tmp 2] 11 := ent tb0 Tryz.func206 Tryz.results206 Tryz.ntmps206 (by kernel_rfl)
theorem enter_210 : Ent 210 Tryz.f210 pl0 [.cell 2 126] 12 := ent tb0 Tryz.func210 Tryz.results210 Tryz.ntmps210 (by kernel_rfl)
theorem enter_232 : Ent 232 Tryz.f232 pl0 [.tmp 2] 6 := ent tb0 Tryz.func232 Tryz.results232 Tryz.ntmps232 (by kernel_rfl)
theorem enter_233 : Ent 233 Tryz.f233 pl0 [.tmp 2] 20 := ent tb0 Tryz.func233 Tryz.results233 Tryz.ntmps233 (by kernel_rfl)
def pl_234 (n : Nat) : Plan :=
  match n with
  | 4 => .one 0 <| .one 1 <| .one 2 <| .one 3 <| .one 4 <| .one 5 <| .one 6 <| .one 7 <| .one 8 <| .one 9 <| .one 10 <| .one 11 <| .one 12 <| .one 13 <| .one 14 <| .one 15 <| .one 16 <| .one 17 <| .one 18 <| .one 19 <| .one 20 <| .one 21 <| .one 22 <| .one 23 <| .one 24 <| .one 25 <| .done
  | _ => .done
@[go_sem] theorem plan_234_4 : pl_234 4 = (.one 0 <| .one 1 <| .one 2 <| .one 3 <| .one 4 <| .one 5 <| .one 6 <| .one 7 <| .one 8 <| .one 9 <| .one 10 <| .one 11 <| .one 12 <| .one 13 <| .one 14 <| .one 15 <| .one 16 <| .one 17 <| .one 18 <| .one 19 <| .one 20 <| .one 21 <| .one 22 <| .one 23 <| .one 24 <| .one 25 <| .done) := id rfl
def tb_234 (n : Nat) : List Row :=
  match n with
  | 4 => [⟨4096, 16, 0, 1⟩, ⟨8192, 4096, 1, 2⟩, ⟨16384, 8192, 2, 0⟩, ⟨32768, 16384, 4, 0⟩, ⟨65536, 32768, 12, 0⟩, ⟨131072, 65552, 16, 1⟩, ⟨262144, 196608, 48, 2⟩, ⟨524288, 327680, 80, 0⟩, ⟨1048576, 589824, 144, 0⟩, ⟨2097152, 1114112, 272, 0⟩, ⟨4194304, 2097152, 640, 0⟩, ⟨8388608, 4194312, 1024, 0⟩, ⟨16777216, 12582912, 3072, 1⟩, ⟨33554432, 20971520, 5120, 0⟩, ⟨67108864, 33554433, 8192, 0⟩, ⟨134217728, 33554440, 8192, 0⟩, ⟨268435456, 167772160, 40960, 1⟩, ⟨536870912, 369098752, 90112, 1⟩, ⟨1073741824, 570425344, 139264, 1⟩, ⟨2147483648, 1107296256, 270336, 2⟩, ⟨4294967296, 33554448, 8192, 1⟩, ⟨8589934592, 4328521728, 1056768, 2⟩, ⟨17179869184, 10770972672, 2629632, 0⟩, ⟨34359738368, 17213423616, 4202496, 1⟩, ⟨68719476736, 34397487104, 8397824, 0⟩, ⟨137438953472, 68723671040, 16778240, 0⟩]
  | _ => []
theorem enter_234 : Ent 234 Tryz.f234 pl_234 [.tmp 2] 39 := ent tb_234 Tryz.func234 Tryz.results234 Tryz.ntmps234 (by kernel_rfl)
theorem enter_235 : Ent 235 Tryz.f235 pl0 [.tmp 2] 6 := ent tb0 Tryz.func235 Tryz.results235 Tryz.ntmps235 (by kernel_rfl)
theorem enter_236 : Ent 236 Tryz.f236 pl0 [.tmp 2] 19 := ent tb0 Tryz.func236 Tryz.results236 Tryz.ntmps236 (by kernel_rfl)
def pl_237 (n : Nat) : Plan :=
  match n with
  | 12 => .one 0 <| .one 1 <| .one 2 <| .one 3 <| .one 4 <| .one 5 <| .one 6 <| .one 7 <| .one 8 <| .one 9 <| .one 10 <| .one 11 <| .one 12 <| .one 13 <| .one 14 <| .one 15 <| .one 16 <| .done
  | _ => .done
@[go_sem] theorem plan_237_12 : pl_237 12 = (.one 0 <| .one 1 <| .one 2 <| .one 3 <| .one 4 <| .one 5 <| .one 6 <| .one 7 <| .one 8 <| .one 9 <| .one 10 <| .one 11 <| .one 12 <| .one 13 <| .one 14 <| .one 15 <| .one 16 <| .done) := id rfl
def tb_237 (n : Nat) : List Row :=
  match n with
  | 12 => [⟨9007199254740992, 256, 0, 2⟩, ⟨18014398509481984, 9007199254740992, 1, 0⟩, ⟨36028797018963968, 18014398509481984, 2, 0⟩, ⟨72057594037927936, 36028797018963968, 6, 0⟩, ⟨144115188075855872, 72057594037928064, 8, 0⟩, ⟨288230376151711744, 216172782113783808, 24, 1⟩, ⟨576460752303423488, 360287970189639680, 40, 0⟩, ⟨1152921504606846976, 576460752303423490, 64, 0⟩, ⟨2305843009213693952, 576460752303423616, 64, 0⟩, ⟨4611686018427387904, 2882303761517117440, 320, 1⟩, ⟨9223372036854775808, 6341068275337658368, 704, 1⟩, ⟨18446744073709551616, 9799832789158199296, 1088, 2⟩, ⟨36893488147419103232, 576460752303423744, 64, 2⟩, ⟨73786976294838206464, 55916692973432078336, 6208, 0⟩, ⟨147573952589676412928, 74363437047141629952, 8256, 1⟩, ⟨295147905179352825856, 148222470936017764352, 16456, 0⟩, ⟨590295810358705651712, 295219962773390753792, 32776, 0⟩]
  | _ => []
theorem enter_237 : Ent 237 Tryz.f237 pl_237 [.tmp 4] 71 := ent tb_237 Tryz.func237 Tryz.results237 Tryz.ntmps237 (by kernel_rfl)
def pl_238 (n : Nat) : Plan :=
  match n with
  | 4 => .one 0 <| .one 1 <| .one 2 <| .one 3 <| .one 4 <| .one 5 <| .one 6 <| .one 7 <| .one 8 <| .one 9 <| .one 10 <| .one 11 <| .one 12 <| .one 13 <| .one 14 <| .one 15 <| .one 16 <| .one 17 <| .one 18 <| .done
  | _ => .done
@[go_sem] theorem plan_238_4 : pl_238 4 = (.one 0 <| .one 1 <| .one 2 <| .one 3 <| .one 4 <| .one 5 <| .one 6 <| .one 7 <| .one 8 <| .one 9 <| .one 10 <| .one 11 <| .one 12 <| .one 13 <| .one 14 <| .one 15 <| .one 16 <| .one 17 <| .one 18 <| .done) := id rfl
def tb_238 (n : Nat) : List Row :=
  match n with
  | 4 => [⟨4096, 16, 0, 2⟩, ⟨8192, 4096, 1, 0⟩, ⟨16384, 8192, 2, 0⟩, ⟨32768, 16384, 6, 0⟩, ⟨65536, 32776, 8, 0⟩, ⟨131072, 98304, 24, 1⟩, ⟨262144, 163840, 40, 0⟩, ⟨524288, 262145, 64, 0⟩, ⟨1048576, 262152, 64, 0⟩, ⟨2097152, 1310720, 320, 1⟩, ⟨4194304, 2883584, 704, 1⟩, ⟨8388608, 4456448, 1088, 1⟩, ⟨16777216, 8650752, 2112, 2⟩, ⟨33554432, 262160, 64, 1⟩, ⟨67108864, 33816576, 8256, 2⟩, ⟨134217728, 84148224, 20544, 0⟩, ⟨268435456, 134479872, 32832, 1⟩, ⟨536870912, 268730368, 65608, 0⟩, ⟨1073741824, 536903680, 131080, 0⟩]
  | _ => []
theorem enter_238 : Ent 238 Tryz.f238 pl_238 [.tmp 2] 32 := ent tb_238 Tryz.func238 Tryz.results238 Tryz.ntmps238 (by kernel_rfl)
end Go.Proofs.YtpcnblbjidiapaaGreat
