/-
Facts of the program, printed by a program of mine: walks.
No conditions.
-/
import Derived.Test.YtdjfdlpfchokcaaGreatQFactsT
import Derived.Test.YtdjfdlpfchokcaaGreatQEngW
set_option linter.unusedSectionVars false
set_option linter.unusedSimpArgs false
set_option linter.unusedVariables false
namespace Go.Proofs.YtdjfdlpfchokcaaGreat
open Go Go.Eng
set_option maxRecDepth 20000
variable [Toks]
theorem enter_3 : Ent 3 Tryz.f3 pl0 [.tmp 8] 114 := ent tb0 Tryz.func3 Tryz.results3 Tryz.ntmps3 (by kernel_rfl)
def pl_4 (n : Nat) : Plan :=
 match n with
 | 8 => .one 0 <| .one 1 <| .one 2 <| .one 3 <| .one 4 <| .alt 5 [4, 3, 2] (.one 6 <| .alt 7 [] (.one 8 <| .one 9 <| .alt 10 [] (.done) <| .none) <| .none) <| .none
 | _ => .done
@[go_sem] theorem plan_4_8 : pl_4 8 = (.one 0 <| .one 1 <| .one 2 <| .one 3 <| .one 4 <| .alt 5 [4, 3, 2] (.one 6 <| .alt 7 [] (.one 8 <| .one 9 <| .alt 10 [] (.done) <| .none) <| .none) <| .none) := id rfl
def tb_4 (n : Nat) : List Row :=
 match n with
 | 8 => [⟨137438953472, 1024, 0, 0⟩, ⟨274877906944, 1024, 0, 0⟩, ⟨549755813888, 274877906944, 2, 1⟩, ⟨1099511627776, 549755813888, 4, 1⟩, ⟨2199023255552, 1099511627776, 8, 2⟩, ⟨4398046511104, 0, 0, 5⟩, ⟨8796093022208, 4398046511104, 32, 0⟩, ⟨17592186044416, 10995116277760, 112, 5⟩, ⟨35184372088832, 137438953472, 255, 1⟩, ⟨70368744177664, 35184372088832, 511, 1⟩, ⟨0, 87960930222080, 767, 4⟩]
 | _ => []
theorem enter_4 : Ent 4 Tryz.f4 pl_4 [.tmp 4, .tmp 5] 58 := ent tb_4 Tryz.func4 Tryz.results4 Tryz.ntmps4 (by kernel_rfl)
theorem enter_5 : Ent 5 Tryz.f5 pl0 [.tmp 6] 28 := ent tb0 Tryz.func5 Tryz.results5 Tryz.ntmps5 (by kernel_rfl)
def pl_6 (n : Nat) : Plan :=
 match n with
 | 6 => .one 0 <| .one 1 <| .one 2 <| .one 3 <| .one 4 <| .one 5 <| .alt 6 [] (.one 7 <| .one 8 <| .one 9 <| .one 10 <| .done) <| .none
 | _ => .done
@[go_sem] theorem plan_6_6 : pl_6 6 = (.one 0 <| .one 1 <| .one 2 <| .one 3 <| .one 4 <| .one 5 <| .alt 6 [] (.one 7 <| .one 8 <| .one 9 <| .one 10 <| .done) <| .none) := id rfl
def tb_6 (n : Nat) : List Row :=
 match n with
 | 6 => [⟨549755813888, 1, 0, 0⟩, ⟨1099511627776, 549755813888, 1, 1⟩, ⟨2199023255552, 1099511627776, 2, 1⟩, ⟨4398046511104, 2199023255552, 4, 2⟩, ⟨8796093022208, 4, 0, 0⟩, ⟨17592186044416, 1024, 0, 2⟩, ⟨35184372088832, 30786325577728, 56, 5⟩, ⟨70368744177664, 35184372088832, 64, 0⟩, ⟨140737488355328, 35184372088832, 64, 0⟩, ⟨64, 70368744177664, 511, 0⟩, ⟨128, 140737488355328, 1023, 0⟩]
 | _ => []
theorem enter_6 : Ent 6 Tryz.f6 pl_6 [.tmp 6, .tmp 7] 48 := ent tb_6 Tryz.func6 Tryz.results6 Tryz.ntmps6 (by kernel_rfl)
theorem enter_7 : Ent 7 Tryz.f7 pl0 [.tmp 8] 22 := ent tb0 Tryz.func7 Tryz.results7 Tryz.ntmps7 (by kernel_rfl)
theorem enter_8 : Ent 8 Tryz.f8 pl0 [.cell 2 35] 6 := ent tb0 Tryz.func8 Tryz.results8 Tryz.ntmps8 (by kernel_rfl)
def pl_9 (n : Nat) : Plan :=
 match n with
 | 2 => .one 0 <| .one 1 <| .one 2 <| .one 3 <| .one 4 <| .one 5 <| .one 6 <| .one 7 <| .one 8 <| .one 9 <| .one 10 <| .one 11 <| .one 12 <| .one 13 <| .one 14 <| .one 15 <| .one 16 <| .one 17 <| .one 18 <| .alt 19 [] (.one 20 <| .one 21 <| .done) <| .none
 | _ => .done
@[go_sem] theorem plan_9_2 : pl_9 2 = (.one 0 <| .one 1 <| .one 2 <| .one 3 <| .one 4 <| .one 5 <| .one 6 <| .one 7 <| .one 8 <| .one 9 <| .one 10 <| .one 11 <| .one 12 <| .one 13 <| .one 14 <| .one 15 <| .one 16 <| .one 17 <| .one 18 <| .alt 19 [] (.one 20 <| .one 21 <| .done) <| .none) := id rfl
def tb_9 (n : Nat) : List Row :=
 match n with
 | 2 => [⟨16384, 512, 0, 0⟩, ⟨32768, 16384, 1, 1⟩, ⟨65536, 32768, 2, 0⟩, ⟨131072, 66048, 4, 0⟩, ⟨262144, 196608, 12, 2⟩, ⟨524288, 65538, 4, 0⟩, ⟨1048576, 851968, 52, 1⟩, ⟨2097152, 1114112, 68, 0⟩, ⟨4194304, 2097152, 144, 0⟩, ⟨8388608, 4194432, 256, 2⟩, ⟨16777216, 12582912, 768, 0⟩, ⟨33554432, 20971520, 1280, 0⟩, ⟨67108864, 33554432, 3072, 0⟩, ⟨134217728, 67108865, 4096, 0⟩, ⟨268435456, 201326592, 12288, 1⟩, ⟨536870912, 335544320, 20480, 1⟩, ⟨1073741824, 603979776, 36864, 2⟩, ⟨2147483648, 67108868, 4096, 0⟩, ⟨4294967296, 67108992, 4096, 2⟩, ⟨8589934592, 7583301632, 462848, 5⟩, ⟨17179869184, 8657043456, 528384, 0⟩, ⟨256, 17179869184, 2097151, 0⟩]
 | _ => []
theorem enter_9 : Ent 9 Tryz.f9 pl_9 [.tmp 8] 35 := ent tb_9 Tryz.func9 Tryz.results9 Tryz.ntmps9 (by kernel_rfl)
theorem enter_10 : Ent 10 Tryz.f10 pl0 [.cell 4 35, .tmp 5] 24 := ent tb0 Tryz.func10 Tryz.results10 Tryz.ntmps10 (by kernel_rfl)
theorem enter_11 : Ent 11 Tryz.f11 pl0 [.tmp 6] 31 := ent tb0 Tryz.func11 Tryz.results11 Tryz.ntmps11 (by kernel_rfl)
theorem enter_12 : Ent 12 Tryz.f12 pl0 [.tmp 2, .tmp 3] 25 := ent tb0 Tryz.func12 Tryz.results12 Tryz.ntmps12 (by kernel_rfl)
theorem enter_13 : Ent 13 Tryz.f13 pl0 [.tmp 2] 8 := ent tb0 Tryz.func13 Tryz.results13 Tryz.ntmps13 (by kernel_rfl)
theorem enter_14 : Ent 14 Tryz.f14 pl0 [.tmp 4] 38 := ent tb0 Tryz.func14 Tryz.results14 Tryz.ntmps14 (by kernel_rfl)
theorem enter_15 : Ent 15 Tryz.f15 pl0 [.tmp 2] 48 := ent tb0 Tryz.func15 Tryz.results15 Tryz.ntmps15 (by kernel_rfl)
theorem enter_16 : Ent 16 Tryz.f16 pl0 [.tmp 0] 121 := ent tb0 Tryz.func16 Tryz.results16 Tryz.ntmps16 (by kernel_rfl)
def pl_17 (n : Nat) : Plan :=
 match n with
 | 3 => .one 0 <| .one 2 <| .alt 1 [] (.alt 3 [] (.one 4 <| .alt 5 [] (.one 6 <| .one 7 <| .done) <| .none) <| .none) <| .alt 3 [] (.alt 1 [] (.one 4 <| .alt 5 [] (.one 6 <| .one 7 <| .done) <| .none) <| .none) <| .none
 | _ => .done
@[go_sem] theorem plan_17_3 : pl_17 3 = (.one 0 <| .one 2 <| .alt 1 [] (.alt 3 [] (.one 4 <| .alt 5 [] (.one 6 <| .one 7 <| .done) <| .none) <| .none) <| .alt 3 [] (.alt 1 [] (.one 4 <| .alt 5 [] (.one 6 <| .one 7 <| .done) <| .none) <| .none) <| .none) := id rfl
def tb_17 (n : Nat) : List Row :=
 match n with
 | 3 => [⟨1024, 1, 0, 0⟩, ⟨2048, 1024, 1, 3⟩, ⟨4096, 1, 0, 0⟩, ⟨8192, 4096, 4, 3⟩, ⟨16384, 10240, 10, 0⟩, ⟨32768, 16384, 16, 3⟩, ⟨4, 32768, 63, 0⟩, ⟨8, 0, 127, 0⟩]
 | _ => []
theorem enter_17 : Ent 17 Tryz.f17 pl_17 [.tmp 2, .tmp 3] 16 := ent tb_17 Tryz.func17 Tryz.results17 Tryz.ntmps17 (by kernel_rfl)
def pl_18 (n : Nat) : Plan :=
 match n with
 | 6 => .one 0 <| .one 1 <| .one 2 <| .one 3 <| .one 4 <| .one 5 <| .one 6 <| .alt 7 [] (.one 8 <| .one 9 <| .alt 10 [] (.done) <| .none) <| .none
 | _ => .done
@[go_sem] theorem plan_18_6 : pl_18 6 = (.one 0 <| .one 1 <| .one 2 <| .one 3 <| .one 4 <| .one 5 <| .one 6 <| .alt 7 [] (.one 8 <| .one 9 <| .alt 10 [] (.done) <| .none) <| .none) := id rfl
def tb_18 (n : Nat) : List Row :=
 match n with
 | 6 => [⟨262144, 16, 0, 0⟩, ⟨524288, 16, 0, 0⟩, ⟨1048576, 524288, 2, 1⟩, ⟨2097152, 1048576, 4, 1⟩, ⟨4194304, 2097152, 8, 2⟩, ⟨8388608, 0, 0, 0⟩, ⟨16777216, 8388608, 32, 0⟩, ⟨33554432, 20971520, 112, 5⟩, ⟨67108864, 262144, 255, 1⟩, ⟨134217728, 67108864, 511, 1⟩, ⟨0, 167772160, 767, 4⟩]
 | _ => []
theorem enter_18 : Ent 18 Tryz.f18 pl_18 [.tmp 2, .tmp 3] 30 := ent tb_18 Tryz.func18 Tryz.results18 Tryz.ntmps18 (by kernel_rfl)
theorem enter_19 : Ent 19 Tryz.f19 pl0 [.tmp 0] 3 := ent tb0 Tryz.func19 Tryz.results19 Tryz.ntmps19 (by kernel_rfl)
def pl_20 (n : Nat) : Plan :=
 match n with
 | 5 => .one 0 <| .one 1 <| .one 2 <| .one 3 <| .one 4 <| .one 5 <| .one 6 <| .one 7 <| .one 8 <| .one 9 <| .one 10 <| .one 11 <| .alt 12 [] (.one 13 <| .alt 14 [] (.done) <| .none) <| .none
 | _ => .done
@[go_sem] theorem plan_20_5 : pl_20 5 = (.one 0 <| .one 1 <| .one 2 <| .one 3 <| .one 4 <| .one 5 <| .one 6 <| .one 7 <| .one 8 <| .one 9 <| .one 10 <| .one 11 <| .alt 12 [] (.one 13 <| .alt 14 [] (.done) <| .none) <| .none) := id rfl
def tb_20 (n : Nat) : List Row :=
 match n with
 | 5 => [⟨262144, 1, 0, 0⟩, ⟨524288, 262144, 1, 1⟩, ⟨1048576, 524288, 2, 1⟩, ⟨2097152, 1048576, 4, 2⟩, ⟨4194304, 16, 0, 0⟩, ⟨8388608, 1, 0, 0⟩, ⟨16777216, 8388608, 32, 1⟩, ⟨33554432, 16777216, 64, 1⟩, ⟨67108864, 33554432, 128, 2⟩, ⟨134217728, 16, 0, 0⟩, ⟨268435456, 0, 0, 0⟩, ⟨536870912, 6291456, 287, 1⟩, ⟨0, 536870912, 2335, 4⟩, ⟨1073741824, 201326592, 8191, 1⟩, ⟨0, 1342177280, 16383, 4⟩]
 | _ => []
theorem enter_20 : Ent 20 Tryz.f20 pl_20 [.tmp 2, .tmp 3] 33 := ent tb_20 Tryz.func20 Tryz.results20 Tryz.ntmps20 (by kernel_rfl)
theorem enter_21 : Ent 21 Tryz.f21 pl0 [] 22 := ent tb0 Tryz.func21 Tryz.results21 Tryz.ntmps21 (by kernel_rfl)
theorem enter_22 : Ent 22 Tryz.f22 pl0 [.tmp 4] 18 := ent tb0 Tryz.func22 Tryz.results22 Tryz.ntmps22 (by kernel_rfl)
def pl_23 (n : Nat) : Plan :=
 match n with
 | 12 => .one 0 <| .one 4 <| .one 5 <| .one 6 <| .one 7 <| .one 8 <| .one 9 <| .one 10 <| .one 11 <| .one 12 <| .one 1 <| .one 2 <| .one 3 <| .alt 13 [3, 2, 1] (.alt 14 [] (.done) <| .none) <| .none
 | _ => .done
@[go_sem] theorem plan_23_12 : pl_23 12 = (.one 0 <| .one 4 <| .one 5 <| .one 6 <| .one 7 <| .one 8 <| .one 9 <| .one 10 <| .one 11 <| .one 12 <| .one 1 <| .one 2 <| .one 3 <| .alt 13 [3, 2, 1] (.alt 14 [] (.done) <| .none) <| .none) := id rfl
def tb_23 (n : Nat) : List Row :=
 match n with
 | 12 => [⟨4503599627370496, 1, 0, 0⟩, ⟨9007199254740992, 4503599627370496, 1, 1⟩, ⟨18014398509481984, 9007199254740992, 2, 1⟩, ⟨36028797018963968, 18014398509481984, 4, 2⟩, ⟨72057594037927936, 4, 0, 0⟩, ⟨144115188075855872, 1, 0, 0⟩, ⟨288230376151711744, 144115188075855872, 32, 1⟩, ⟨576460752303423488, 288230376151711744, 64, 1⟩, ⟨1152921504606846976, 576460752303423488, 128, 2⟩, ⟨2305843009213693952, 4, 0, 0⟩, ⟨4611686018427387904, 3458764513820540928, 768, 2⟩, ⟨9223372036854775808, 2, 0, 0⟩, ⟨18446744073709551616, 9223372036854775808, 2048, 0⟩, ⟨36893488147419103232, 23058430092136939520, 5120, 5⟩, ⟨0, 37001574538475995136, 16383, 5⟩]
 | _ => []
theorem enter_23 : Ent 23 Tryz.f23 pl_23 [.tmp 6] 84 := ent tb_23 Tryz.func23 Tryz.results23 Tryz.ntmps23 (by kernel_rfl)
theorem enter_24 : Ent 24 Tryz.f24 pl0 [.cell 4 35, .tmp 5] 29 := ent tb0 Tryz.func24 Tryz.results24 Tryz.ntmps24 (by kernel_rfl)
theorem enter_25 : Ent 25 Tryz.f25 pl0 [.tmp 6, .tmp 7] 35 := ent tb0 Tryz.func25 Tryz.results25 Tryz.ntmps25 (by kernel_rfl)
def pl_26 (n : Nat) : Plan :=
 match n with
 | 3 => .one 0 <| .one 1 <| .one 2 <| .one 3 <| .one 4 <| .one 5 <| .one 6 <| .one 7 <| .one 8 <| .one 9 <| .one 10 <| .one 11 <| .one 12 <| .done
 | _ => .done
@[go_sem] theorem plan_26_3 : pl_26 3 = (.one 0 <| .one 1 <| .one 2 <| .one 3 <| .one 4 <| .one 5 <| .one 6 <| .one 7 <| .one 8 <| .one 9 <| .one 10 <| .one 11 <| .one 12 <| .done) := id rfl
def tb_26 (n : Nat) : List Row :=
 match n with
 | 3 => [⟨524288, 1, 0, 0⟩, ⟨1048576, 524288, 1, 1⟩, ⟨2097152, 1048576, 2, 1⟩, ⟨4194304, 2097152, 4, 2⟩, ⟨8388608, 1, 0, 0⟩, ⟨16777216, 8388608, 16, 1⟩, ⟨33554432, 16777216, 32, 1⟩, ⟨67108864, 33554432, 64, 2⟩, ⟨134217728, 4, 0, 0⟩, ⟨268435456, 201326592, 384, 2⟩, ⟨536870912, 272629760, 520, 1⟩, ⟨1073741824, 536870912, 1024, 2⟩, ⟨64, 1073741824, 4095, 0⟩]
 | _ => []
theorem enter_26 : Ent 26 Tryz.f26 pl_26 [.tmp 6] 31 := ent tb_26 Tryz.func26 Tryz.results26 Tryz.ntmps26 (by kernel_rfl)
theorem enter_27 : Ent 27 Tryz.f27 pl0 [.tmp 6] 31 := ent tb0 Tryz.func27 Tryz.results27 Tryz.ntmps27 (by kernel_rfl)
theorem enter_28 : Ent 28 Tryz.f28 pl0 [.tmp 4] 38 := ent tb0 Tryz.func28 Tryz.results28 Tryz.ntmps28 (by kernel_rfl)
theorem enter_29 : Ent 29 Tryz.f29 pl0 [.tmp 2] 7 := ent tb0 Tryz.func29 Tryz.results29 Tryz.ntmps29 (by kernel_rfl)
theorem enter_30 : Ent 30 Tryz.f30 pl0 [.tmp 2] 20 := ent tb0 Tryz.func30 Tryz.results30 Tryz.ntmps30 (by kernel_rfl)
theorem enter_31 : Ent 31 Tryz.f31 pl0 [.tmp 6] 21 := ent tb0 Tryz.func31 Tryz.results31 Tryz.ntmps31 (by kernel_rfl)
theorem enter_32 : Ent 32 Tryz.f32 pl0 [.cell 4 35, .tmp 5] 18 := ent tb0 Tryz.func32 Tryz.results32 Tryz.ntmps32 (by kernel_rfl)
theorem enter_33 : Ent 33 Tryz.f33 pl0 [.tmp 4] 15 := ent tb0 Tryz.func33 Tryz.results33 Tryz.ntmps33 (by kernel_rfl)
theorem enter_34 : Ent 34 Tryz.f34 pl0 [.tmp 4] 55 := ent tb0 Tryz.func34 Tryz.results34 Tryz.ntmps34 (by kernel_rfl)
theorem enter_35 : Ent 35 Tryz.f35 pl0 [.tmp 4] 25 := ent tb0 Tryz.func35 Tryz.results35 Tryz.ntmps35 (by kernel_rfl)
def pl_36 (n : Nat) : Plan :=
 match n with
 | 5 => .one 0 <| .one 1 <| .one 2 <| .one 3 <| .one 4 <| .one 5 <| .one 6 <| .one 7 <| .one 8 <| .one 9 <| .one 11 <| .one 12 <| .one 13 <| .one 14 <| .alt 10 [13, 12] (.alt 15 [] (.one 16 <| .one 17 <| .done) <| .none) <| .none
 | 13 => .one 0 <| .one 1 <| .one 2 <| .one 3 <| .one 4 <| .one 5 <| .one 6 <| .one 7 <| .one 8 <| .one 9 <| .one 10 <| .alt 11 [] (.done) <| .none
 | 16 => .one 0 <| .one 1 <| .one 2 <| .one 3 <| .one 4 <| .one 5 <| .one 6 <| .one 7 <| .one 8 <| .alt 9 [] (.one 10 <| .one 11 <| .alt 12 [] (.done) <| .none) <| .none
 | 17 => .one 0 <| .one 1 <| .one 2 <| .one 3 <| .one 4 <| .one 5 <| .alt 6 [] (.done) <| .none
 | 18 => .one 0 <| .one 1 <| .one 2 <| .one 3 <| .one 4 <| .one 6 <| .one 5 <| .alt 7 [5] (.one 8 <| .one 9 <| .done) <| .none
 | _ => .done
@[go_sem] theorem plan_36_5 : pl_36 5 = (.one 0 <| .one 1 <| .one 2 <| .one 3 <| .one 4 <| .one 5 <| .one 6 <| .one 7 <| .one 8 <| .one 9 <| .one 11 <| .one 12 <| .one 13 <| .one 14 <| .alt 10 [13, 12] (.alt 15 [] (.one 16 <| .one 17 <| .done) <| .none) <| .none) := id rfl
@[go_sem] theorem plan_36_13 : pl_36 13 = (.one 0 <| .one 1 <| .one 2 <| .one 3 <| .one 4 <| .one 5 <| .one 6 <| .one 7 <| .one 8 <| .one 9 <| .one 10 <| .alt 11 [] (.done) <| .none) := id rfl
@[go_sem] theorem plan_36_16 : pl_36 16 = (.one 0 <| .one 1 <| .one 2 <| .one 3 <| .one 4 <| .one 5 <| .one 6 <| .one 7 <| .one 8 <| .alt 9 [] (.one 10 <| .one 11 <| .alt 12 [] (.done) <| .none) <| .none) := id rfl
@[go_sem] theorem plan_36_17 : pl_36 17 = (.one 0 <| .one 1 <| .one 2 <| .one 3 <| .one 4 <| .one 5 <| .alt 6 [] (.done) <| .none) := id rfl
@[go_sem] theorem plan_36_18 : pl_36 18 = (.one 0 <| .one 1 <| .one 2 <| .one 3 <| .one 4 <| .one 6 <| .one 5 <| .alt 7 [5] (.one 8 <| .one 9 <| .done) <| .none) := id rfl
def tb_36 (n : Nat) : List Row :=
 match n with
 | 5 => [⟨16777216, 64, 0, 0⟩, ⟨33554432, 512, 0, 1⟩, ⟨67108864, 33554432, 2, 2⟩, ⟨134217728, 67108864, 4, 1⟩, ⟨268435456, 134217728, 8, 0⟩, ⟨536870912, 268435968, 16, 1⟩, ⟨1073741824, 805306368, 48, 2⟩, ⟨2147483648, 1342177280, 80, 1⟩, ⟨4294967296, 2415919104, 144, 0⟩, ⟨8589934592, 4294967296, 256, 0⟩, ⟨17179869184, 8606711808, 529, 5⟩, ⟨34359738368, 128, 0, 0⟩, ⟨68719476736, 512, 0, 1⟩, ⟨137438953472, 68719476736, 4096, 2⟩, ⟨274877906944, 137438953472, 8192, 0⟩, ⟨549755813888, 309237645312, 19456, 5⟩, ⟨64, 17179869184, 34815, 0⟩, ⟨128, 549755813888, 131071, 0⟩]
 | 13 => [⟨9223372036854775808, 1, 0, 0⟩, ⟨18446744073709551616, 9223372036854775808, 1, 1⟩, ⟨36893488147419103232, 18446744073709551616, 2, 1⟩, ⟨73786976294838206464, 36893488147419103232, 4, 2⟩, ⟨147573952589676412928, 8192, 0, 0⟩, ⟨295147905179352825856, 4096, 0, 0⟩, ⟨590295810358705651712, 8192, 0, 0⟩, ⟨1180591620717411303424, 885443715538058477568, 96, 1⟩, ⟨2361183241434822606848, 1180591620717411303424, 128, 2⟩, ⟨4722366482869645213696, 221360928884514619392, 511, 1⟩, ⟨9444732965739290427392, 4722366482869645213696, 1023, 1⟩, ⟨0, 11805916207174113034240, 1535, 4⟩]
 | 16 => [⟨4835703278458516698824704, 1, 0, 0⟩, ⟨9671406556917033397649408, 4835703278458516698824704, 1, 1⟩, ⟨19342813113834066795298816, 9671406556917033397649408, 2, 1⟩, ⟨38685626227668133590597632, 19342813113834066795298816, 4, 2⟩, ⟨77371252455336267181195264, 1024, 0, 0⟩, ⟨154742504910672534362390528, 1, 0, 0⟩, ⟨309485009821345068724781056, 0, 0, 0⟩, ⟨618970019642690137449562112, 2048, 0, 0⟩, ⟨1237940039285380274899124224, 116056878683004400771792896, 95, 1⟩, ⟨0, 1547425049106725343623905280, 351, 4⟩, ⟨2475880078570760549798248448, 154742504910672534362390528, 1023, 1⟩, ⟨4951760157141521099596496896, 2475880078570760549798248448, 2047, 1⟩, ⟨0, 5570730176784211237046059008, 3071, 4⟩]
 | 17 => [⟨9903520314283042199192993792, 1, 0, 0⟩, ⟨19807040628566084398385987584, 9903520314283042199192993792, 1, 1⟩, ⟨39614081257132168796771975168, 19807040628566084398385987584, 2, 1⟩, ⟨79228162514264337593543950336, 39614081257132168796771975168, 4, 2⟩, ⟨158456325028528675187087900672, 16384, 0, 1⟩, ⟨316912650057057350374175801344, 158456325028528675187087900672, 16, 2⟩, ⟨0, 396140812571321687967719751680, 40, 5⟩]
 | 18 => [⟨633825300114114700748351602688, 16384, 0, 1⟩, ⟨1267650600228229401496703205376, 633825300114114700748351602688, 1, 2⟩, ⟨2535301200456458802993406410752, 16384, 0, 1⟩, ⟨5070602400912917605986812821504, 2535301200456458802993406410752, 4, 2⟩, ⟨10141204801825835211973625643008, 16384, 0, 1⟩, ⟨20282409603651670423947251286016, 10141204801825835211973625643008, 16, 2⟩, ⟨4, 1267650600228229401496703205376, 3, 0⟩, ⟨0, 5070602400912917605986812821512, 79, 4⟩, ⟨16, 20282409603651670423947251286016, 255, 0⟩, ⟨32, 0, 511, 0⟩]
 | _ => []
theorem enter_36 : Ent 36 Tryz.f36 pl_36 [.tmp 2, .cell 3 35, .tmp 4, .tmp 5] 105 := ent tb_36 Tryz.func36 Tryz.results36 Tryz.ntmps36 (by kernel_rfl)
theorem enter_37 : Ent 37 Tryz.f37 pl0 [.tmp 2] 22 := ent tb0 Tryz.func37 Tryz.results37 Tryz.ntmps37 (by kernel_rfl)
def pl_38 (n : Nat) : Plan :=
 match n with
 | 6 => .one 0 <| .one 1 <| .one 2 <| .one 3 <| .one 4 <| .one 5 <| .one 6 <| .one 7 <| .one 8 <| .done
 | _ => .done
@[go_sem] theorem plan_38_6 : pl_38 6 = (.one 0 <| .one 1 <| .one 2 <| .one 3 <| .one 4 <| .one 5 <| .one 6 <| .one 7 <| .one 8 <| .done) := id rfl
def tb_38 (n : Nat) : List Row :=
 match n with
 | 6 => [⟨131072, 1, 0, 0⟩, ⟨262144, 32, 0, 0⟩, ⟨524288, 393216, 3, 1⟩, ⟨1048576, 524288, 4, 2⟩, ⟨2097152, 2, 0, 0⟩, ⟨4194304, 32, 0, 0⟩, ⟨8388608, 6291456, 48, 1⟩, ⟨16777216, 8388608, 64, 2⟩, ⟨33554432, 17825792, 136, 1⟩]
 | _ => []
theorem enter_38 : Ent 38 Tryz.f38 pl_38 [.tmp 4] 26 := ent tb_38 Tryz.func38 Tryz.results38 Tryz.ntmps38 (by kernel_rfl)
def pl_39 (n : Nat) : Plan :=
 match n with
 | 6 => .one 0 <| .one 1 <| .one 2 <| .one 3 <| .one 4 <| .one 5 <| .one 6 <| .one 7 <| .one 8 <| .done
 | _ => .done
@[go_sem] theorem plan_39_6 : pl_39 6 = (.one 0 <| .one 1 <| .one 2 <| .one 3 <| .one 4 <| .one 5 <| .one 6 <| .one 7 <| .one 8 <| .done) := id rfl
def tb_39 (n : Nat) : List Row :=
 match n with
 | 6 => [⟨131072, 1, 0, 0⟩, ⟨262144, 32, 0, 0⟩, ⟨524288, 393216, 3, 1⟩, ⟨1048576, 524288, 4, 2⟩, ⟨2097152, 2, 0, 0⟩, ⟨4194304, 32, 0, 0⟩, ⟨8388608, 6291456, 48, 1⟩, ⟨16777216, 8388608, 64, 2⟩, ⟨33554432, 17825792, 136, 1⟩]
 | _ => []
theorem enter_39 : Ent 39 Tryz.f39 pl_39 [.tmp 4] 26 := ent tb_39 Tryz.func39 Tryz.results39 Tryz.ntmps39 (by kernel_rfl)
def pl_40 (n : Nat) : Plan :=
 match n with
 | 6 => .one 0 <| .one 1 <| .one 2 <| .one 3 <| .one 4 <| .one 5 <| .one 6 <| .one 7 <| .one 8 <| .done
 | _ => .done
@[go_sem] theorem plan_40_6 : pl_40 6 = (.one 0 <| .one 1 <| .one 2 <| .one 3 <| .one 4 <| .one 5 <| .one 6 <| .one 7 <| .one 8 <| .done) := id rfl
def tb_40 (n : Nat) : List Row :=
 match n with
 | 6 => [⟨131072, 1, 0, 0⟩, ⟨262144, 32, 0, 0⟩, ⟨524288, 393216, 3, 1⟩, ⟨1048576, 524288, 4, 2⟩, ⟨2097152, 2, 0, 0⟩, ⟨4194304, 32, 0, 0⟩, ⟨8388608, 6291456, 48, 1⟩, ⟨16777216, 8388608, 64, 2⟩, ⟨33554432, 17825792, 136, 1⟩]
 | _ => []
theorem enter_40 : Ent 40 Tryz.f40 pl_40 [.tmp 4] 26 := ent tb_40 Tryz.func40 Tryz.results40 Tryz.ntmps40 (by kernel_rfl)
def pl_41 (n : Nat) : Plan :=
 match n with
 | 6 => .one 0 <| .one 1 <| .one 2 <| .one 3 <| .one 4 <| .one 5 <| .one 6 <| .one 7 <| .one 8 <| .done
 | _ => .done
@[go_sem] theorem plan_41_6 : pl_41 6 = (.one 0 <| .one 1 <| .one 2 <| .one 3 <| .one 4 <| .one 5 <| .one 6 <| .one 7 <| .one 8 <| .done) := id rfl
def tb_41 (n : Nat) : List Row :=
 match n with
 | 6 => [⟨131072, 1, 0, 0⟩, ⟨262144, 32, 0, 0⟩, ⟨524288, 393216, 3, 1⟩, ⟨1048576, 524288, 4, 2⟩, ⟨2097152, 2, 0, 0⟩, ⟨4194304, 32, 0, 0⟩, ⟨8388608, 6291456, 48, 1⟩, ⟨16777216, 8388608, 64, 2⟩, ⟨33554432, 17825792, 136, 1⟩]
 | _ => []
theorem enter_41 : Ent 41 Tryz.f41 pl_41 [.tmp 4] 26 := ent tb_41 Tryz.func41 Tryz.results41 Tryz.ntmps41 (by kernel_rfl)
def pl_42 (n : Nat) : Plan :=
 match n with
 | 5 => .one 0 <| .one 1 <| .one 2 <| .one 3 <| .one 4 <| .one 5 <| .one 6 <| .one 7 <| .one 8 <| .one 9 <| .one 10 <| .one 11 <| .one 12 <| .one 13 <| .one 14 <| .one 15 <| .alt 16 [] (.one 17 <| .done) <| .none
 | _ => .done
@[go_sem] theorem plan_42_5 : pl_42 5 = (.one 0 <| .one 1 <| .one 2 <| .one 3 <| .one 4 <| .one 5 <| .one 6 <| .one 7 <| .one 8 <| .one 9 <| .one 10 <| .one 11 <| .one 12 <| .one 13 <| .one 14 <| .one 15 <| .alt 16 [] (.one 17 <| .done) <| .none) := id rfl
def tb_42 (n : Nat) : List Row :=
 match n with
 | 5 => [⟨32768, 8, 0, 0⟩, ⟨65536, 32, 0, 1⟩, ⟨131072, 65536, 2, 2⟩, ⟨262144, 32, 0, 1⟩, ⟨524288, 262144, 8, 2⟩, ⟨1048576, 32, 0, 1⟩, ⟨2097152, 1048576, 32, 2⟩, ⟨4194304, 32, 0, 1⟩, ⟨8388608, 4194304, 128, 2⟩, ⟨16777216, 32, 0, 1⟩, ⟨33554432, 16777216, 512, 2⟩, ⟨67108864, 32, 0, 1⟩, ⟨134217728, 67108864, 2048, 2⟩, ⟨268435456, 134217728, 4096, 0⟩, ⟨536870912, 313131008, 9556, 0⟩, ⟨1073741824, 536870912, 16384, 0⟩, ⟨2147483648, 1073774592, 40961, 5⟩, ⟨8, 2147483648, 131071, 0⟩]
 | _ => []
theorem enter_42 : Ent 42 Tryz.f42 pl_42 [.tmp 2] 34 := ent tb_42 Tryz.func42 Tryz.results42 Tryz.ntmps42 (by kernel_rfl)
end Go.Proofs.YtdjfdlpfchokcaaGreat
