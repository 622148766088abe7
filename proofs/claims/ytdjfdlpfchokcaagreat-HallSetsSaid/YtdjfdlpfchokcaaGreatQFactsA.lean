/-
Facts of the program, printed by a program of mine: walks.
No conditions.
-/
import Derived.Test.YtdjfdlpfchokcaaGreatQFactsT
import Derived.Test.YtdjfdlpfchokcaaGreatQEngW
set_option linter.unusedSectionVars false
set_option linter.unusedSimpArgs false
set_option linter.unusedVariables false
namespace Go.Proofs.YtdjfdlpfchokcaaGreat
open Go Go.Eng
set_option maxRecDepth 20000
variable [Toks]
theorem enter_66 : Ent 66 Tryz.f66 pl0 [.tmp 4] 15 := ent tb0 Tryz.func66 Tryz.results66 Tryz.ntmps66 (by kernel_rfl)
theorem enter_94 : Ent 94 Tryz.f94 pl0 [.tmp 2] 8 := ent tb0 Tryz.func94 Tryz.results94 Tryz.ntmps94 (by kernel_rfl)
theorem enter_104 : Ent 104 Tryz.f104 pl0 [.tmp 2] 8 := ent tb0 Tryz.func104 Tryz.results104 Tryz.ntmps104 (by kernel_rfl)
theorem enter_105 : Ent 105 Tryz.f105 pl0 [.tmp 2] 8 := ent tb0 Tryz.func105 Tryz.results105 Tryz.ntmps105 (by kernel_rfl)
theorem enter_106 : Ent 106 Tryz.f106 pl0 [.tmp 2] 8 := ent tb0 Tryz.func106 Tryz.results106 Tryz.ntmps106 (by kernel_rfl)
theorem enter_107 : Ent 107 Tryz.f107 pl0 [.tmp 2] 8 := ent tb0 Tryz.func107 Tryz.results107 Tryz.ntmps107 (by kernel_rfl)
theorem enter_117 : Ent 117 Tryz.f117 pl0 [.tmp 2] 8 := ent tb0 Tryz.func117 Tryz.results117 Tryz.ntmps117 (by kernel_rfl)
theorem enter_119 : Ent 119 Tryz.f119 pl0 [.tmp 2] 8 := ent tb0 Tryz.func119 Tryz.results119 Tryz.ntmps119 (by kernel_rfl)
theorem enter_122 : Ent 122 Tryz.f122 pl0 [.tmp 2] 5 := ent tb0 Tryz.func122 Tryz.results122 Tryz.ntmps122 (by kernel_rfl)
theorem enter_134 : Ent 134 Tryz.f134 pl0 [.tmp 4] 30 := ent tb0 Tryz.func134 Tryz.results134 Tryz.ntmps134 (by kernel_rfl)
theorem enter_142 : Ent 142 Tryz.f142 pl0 [.cell 0 203] 26 := ent tb0 Tryz.func142 Tryz.results142 Tryz.ntmps142 (by kernel_rfl)
theorem enter_172 : Ent 172 Tryz.f172 pl0 [.tmp 4] 8 := ent tb0 Tryz.func172 Tryz.results172 Tryz.ntmps172 (by kernel_rfl)
end Go.Proofs.YtdjfdlpfchokcaaGreat
