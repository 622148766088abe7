/-
The law WriteSteps, run: two pivots.
No conditions.
-/
import Derived.Test.YtdlfmajopcbllaaGreatQWsB
set_option linter.unusedSectionVars false
set_option linter.unusedSimpArgs false
set_option linter.unusedVariables false
namespace Go.Proofs.YtdlfmajopcbllaaGreat
open Go Go.Eng
set_option maxRecDepth 100000
theorem ws2 (R:Nat→List (List HV)) (N:Nat→Int) (h:WsIn R 5 2) (ok: @WsOk (wsT R N 5 2 h) kids3 5 2 zW): @HCall (wsT R N 5 2 h) Tryz.prog 7 [.nam 1,.nam 3,.tok .i64 40] [] fun r _=>r=.bool true:=by
  letI:Toks:=wsT R N 5 2 h
  exact trueWs (orcWE_ok _ _ _ _ ok) (fuel:=100000) (d:=60) (by kernel_rfl)
end Go.Proofs.YtdlfmajopcbllaaGreat
