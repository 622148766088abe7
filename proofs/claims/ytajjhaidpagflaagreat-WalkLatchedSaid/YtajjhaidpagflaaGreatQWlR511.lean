/-
The law WalkLatched, run: 1 pivots; the kid is written.
No conditions.
-/
import Derived.Test.YtajjhaidpagflaaGreatQWlB
set_option linter.unusedSectionVars false
set_option linter.unusedSimpArgs false
set_option linter.unusedVariables false
namespace Go.Proofs.YtajjhaidpagflaaGreat
open Go Go.Eng
set_option maxRecDepth 100000
theorem run51_01n (R:Nat→List (List HV)) (N:Nat→Int) (h:WlIn R 5 1): @runsN (wlT R N 5 1 h) 5 1 0 (.bool true) w51v w51n w51m=true:=by kernel_rfl
theorem run51_01m (R:Nat→List (List HV)) (N:Nat→Int) (h:WlIn R 5 1): @runsM (wlT R N 5 1 h) 5 1 0 (.bool true) false w51v w51n w51m=true:=by kernel_rfl
theorem run51_01k (R:Nat→List (List HV)) (N:Nat→Int) (h:WlIn R 5 1): @runsM (wlT R N 5 1 h) 5 1 0 (.bool true) true w51v w51n w51m=true:=by kernel_rfl
theorem run51_11n (R:Nat→List (List HV)) (N:Nat→Int) (h:WlIn R 5 1): @runsN (wlT R N 5 1 h) 5 1 1 (.bool true) w51v w51n w51m=true:=by kernel_rfl
theorem run51_11m (R:Nat→List (List HV)) (N:Nat→Int) (h:WlIn R 5 1): @runsM (wlT R N 5 1 h) 5 1 1 (.bool true) false w51v w51n w51m=true:=by kernel_rfl
theorem run51_11k (R:Nat→List (List HV)) (N:Nat→Int) (h:WlIn R 5 1): @runsM (wlT R N 5 1 h) 5 1 1 (.bool true) true w51v w51n w51m=true:=by kernel_rfl
end Go.Proofs.YtajjhaidpagflaaGreat
