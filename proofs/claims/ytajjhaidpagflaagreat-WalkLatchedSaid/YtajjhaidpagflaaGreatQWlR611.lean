/-
The law WalkLatched, run: 1 pivots, no numbers for them; the kid is written.
No conditions.
-/
import Derived.Test.YtajjhaidpagflaaGreatQWlB
set_option linter.unusedSectionVars false
set_option linter.unusedSimpArgs false
set_option linter.unusedVariables false
namespace Go.Proofs.YtajjhaidpagflaaGreat
open Go Go.Eng
set_option maxRecDepth 100000
theorem run61_01n (R:Nat→List (List HV)) (N:Nat→Int) (h:WlIn R 6 1): @runsN (wlT R N 6 1 h) 6 1 0 (.bool true) w61v w61n w61m=true:=by kernel_rfl
theorem run61_01m (R:Nat→List (List HV)) (N:Nat→Int) (h:WlIn R 6 1): @runsM (wlT R N 6 1 h) 6 1 0 (.bool true) false w61v w61n w61m=true:=by kernel_rfl
theorem run61_01k (R:Nat→List (List HV)) (N:Nat→Int) (h:WlIn R 6 1): @runsM (wlT R N 6 1 h) 6 1 0 (.bool true) true w61v w61n w61m=true:=by kernel_rfl
theorem run61_11n (R:Nat→List (List HV)) (N:Nat→Int) (h:WlIn R 6 1): @runsN (wlT R N 6 1 h) 6 1 1 (.bool true) w61v w61n w61m=true:=by kernel_rfl
theorem run61_11m (R:Nat→List (List HV)) (N:Nat→Int) (h:WlIn R 6 1): @runsM (wlT R N 6 1 h) 6 1 1 (.bool true) false w61v w61n w61m=true:=by kernel_rfl
theorem run61_11k (R:Nat→List (List HV)) (N:Nat→Int) (h:WlIn R 6 1): @runsM (wlT R N 6 1 h) 6 1 1 (.bool true) true w61v w61n w61m=true:=by kernel_rfl
end Go.Proofs.YtajjhaidpagflaaGreat
