/-
The chapter's example, run.
No conditions.
-/
import Derived.Test.YtajjhaidpagflaaGreatQTbB
set_option linter.unusedSectionVars false
set_option linter.unusedSimpArgs false
set_option linter.unusedVariables false
namespace Go.Proofs.YtajjhaidpagflaaGreat
open Go Go.Eng
set_option maxRecDepth 100000
variable [Toks]
theorem awake18_run:HCall Tryz.prog 18 [] [] fun r _=>r=.bool true:=trueWs (orcE_ok orcS_ok) (fuel:=100000) (d:=60) (by kernel_rfl)
theorem awake18:Pure Tryz.prog 18 [] (.bool true):=Pure.of_nil (by simp) (.bool _) awake18_run
end Go.Proofs.YtajjhaidpagflaaGreat
