/-
The chapter's example, run.
No conditions.
-/
import Derived.Test.YtbmibhjjogobhaaGreatQTbB
set_option linter.unusedSectionVars false
set_option linter.unusedSimpArgs false
set_option linter.unusedVariables false
namespace Go.Proofs.YtbmibhjjogobhaaGreat
open Go Go.Eng
set_option maxRecDepth 100000
variable [zB]
theorem zKO:zI Tryz.prog 9 [] [] fun r _=>r=.bool true:=zFC (zEQ zE4) (fuel:=100000) (d:=60) (by kernel_rfl)
theorem zPb:Pure Tryz.prog 9 [] (.bool true):=Pure.of_nil (by simp) (.bool _) zKO
end Go.Proofs.YtbmibhjjogobhaaGreat
