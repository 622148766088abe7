/-
The law RoomLevels, run: kid 2.
No conditions.
-/
import Derived.Test.YtgglehcchdkbdaaGreatQRlB
set_option linter.unusedSectionVars false
set_option linter.unusedSimpArgs false
set_option linter.unusedVariables false
namespace Go.Proofs.YtgglehcchdkbdaaGreat
open Go Go.Eng
set_option maxRecDepth 100000
theorem rl2 (R:Nat→List (List HV)) (N:Nat→Int) (h:RlIn R) (ok: @RlOk (rlT R N h) 2 1 1 0): @HCall (rlT R N h) Tryz.prog 3 [.nam 1,.nam 6,.nam 4,.tok .i64 40] [] fun r _=>r=.bool true:=by
  letI:Toks:=rlT R N h
  exact trueWs (orcRl_ok ok) (fuel:=100000) (d:=60) (by kernel_rfl)
end Go.Proofs.YtgglehcchdkbdaaGreat
