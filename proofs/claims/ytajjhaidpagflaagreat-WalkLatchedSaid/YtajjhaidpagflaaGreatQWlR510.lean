/-
The law WalkLatched, run: 1 pivots; Root is written.
No conditions.
-/
import Derived.Test.YtajjhaidpagflaaGreatQWlB
set_option linter.unusedSectionVars false
set_option linter.unusedSimpArgs false
set_option linter.unusedVariables false
namespace Go.Proofs.YtajjhaidpagflaaGreat
open Go Go.Eng
set_option maxRecDepth 100000
theorem run51_00n (R:Nat→List (List HV)) (N:Nat→Int) (h:WlIn R 5 1): @runsN (wlT R N 5 1 h) 5 1 0 (.bool false) w51v w51n w51m=true:=by kernel_rfl
theorem run51_00m (R:Nat→List (List HV)) (N:Nat→Int) (h:WlIn R 5 1): @runsM (wlT R N 5 1 h) 5 1 0 (.bool false) false w51v w51n w51m=true:=by kernel_rfl
theorem run51_00k (R:Nat→List (List HV)) (N:Nat→Int) (h:WlIn R 5 1): @runsM (wlT R N 5 1 h) 5 1 0 (.bool false) true w51v w51n w51m=true:=by kernel_rfl
theorem run51_10n (R:Nat→List (List HV)) (N:Nat→Int) (h:WlIn R 5 1): @runsN (wlT R N 5 1 h) 5 1 1 (.bool false) w51v w51n w51m=true:=by kernel_rfl
theorem run51_10m (R:Nat→List (List HV)) (N:Nat→Int) (h:WlIn R 5 1): @runsM (wlT R N 5 1 h) 5 1 1 (.bool false) false w51v w51n w51m=true:=by kernel_rfl
theorem run51_10k (R:Nat→List (List HV)) (N:Nat→Int) (h:WlIn R 5 1): @runsM (wlT R N 5 1 h) 5 1 1 (.bool false) true w51v w51n w51m=true:=by kernel_rfl
end Go.Proofs.YtajjhaidpagflaaGreat
