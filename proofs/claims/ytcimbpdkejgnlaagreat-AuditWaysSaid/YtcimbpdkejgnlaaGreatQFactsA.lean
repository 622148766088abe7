/-
  Facts of the program, printed by a program of mine: walks.
  No conditions.
-/
import Derived.Test.YtcimbpdkejgnlaaGreatQFactsT
import Derived.Test.YtcimbpdkejgnlaaGreatQEngW
set_option linter.unusedSectionVars false
set_option linter.unusedSimpArgs false
set_option linter.unusedVariables false
namespace Go.Proofs.YtcimbpdkejgnlaaGreat
open Go Go.Eng
set_option maxRecDepth 20000
variable [Toks]
theorem enter_66 : Ent 66 Tryz.f66 pl0 [.tmp 4] 15 := ent tb0 Tryz.func66 Tryz.results66 Tryz.ntmps66 (by kernel_rfl)
theorem enter_169 : Ent 169 Tryz.f169 pl0 [.tmp 2] 8 := ent tb0 Tryz.func169 Tryz.results169 Tryz.ntmps169 (by kernel_rfl)
theorem enter_170 : Ent 170 Tryz.f170 pl0 [.tmp 2] 8 := ent tb0 Tryz.func170 Tryz.results170 Tryz.ntmps170 (by kernel_rfl)
theorem enter_244 : Ent 244 Tryz.f244 pl0 [.tmp 2] 8 := ent tb0 Tryz.func244 Tryz.results244 Tryz.ntmps244 (by kernel_rfl)
theorem enter_264 : Ent 264 Tryz.f264 pl0 [.tmp 2] 8 := ent tb0 Tryz.func264 Tryz.results264 Tryz.ntmps264 (by kernel_rfl)
theorem enter_278 : Ent 278 Tryz.f278 pl0 [.tmp 2] 8 := ent tb0 Tryz.func278 Tryz.results278 Tryz.ntmps278 (by kernel_rfl)
theorem enter_281 : Ent 281 Tryz.f281 pl0 [.tmp 2] 8 := ent tb0 Tryz.func281 Tryz.results281 Tryz.ntmps281 (by kernel_rfl)
theorem enter_289 : Ent 289 Tryz.f289 pl0 [.tmp 2] 8 := ent tb0 Tryz.func289 Tryz.results289 Tryz.ntmps289 (by kernel_rfl)
theorem enter_299 : Ent 299 Tryz.f299 pl0 [.tmp 2] 8 := ent tb0 Tryz.func299 Tryz.results299 Tryz.ntmps299 (by kernel_rfl)
theorem enter_305 : Ent 305 Tryz.f305 pl0 [.tmp 2] 8 := ent tb0 Tryz.func305 Tryz.results305 Tryz.ntmps305 (by kernel_rfl)
theorem enter_356 : Ent 356 Tryz.f356 pl0 [.tmp 4] 8 := ent tb0 Tryz.func356 Tryz.results356 Tryz.ntmps356 (by kernel_rfl)
theorem enter_365 : Ent 365 Tryz.f365 pl0 [.tmp 2] 5 := ent tb0 Tryz.func365 Tryz.results365 Tryz.ntmps365 (by kernel_rfl)
theorem enter_420 : Ent 420 Tryz.f420 pl0 [.tmp 4] 30 := ent tb0 Tryz.func420 Tryz.results420 Tryz.ntmps420 (by kernel_rfl)
theorem enter_448 : Ent 448 Tryz.f448 pl0 [.cell 0 483] 26 := ent tb0 Tryz.func448 Tryz.results448 Tryz.ntmps448 (by kernel_rfl)
end Go.Proofs.YtcimbpdkejgnlaaGreat
