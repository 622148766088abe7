/-
The law WalkLatched, run: 2 pivots; the kid is written.
No conditions.
-/
import Derived.Test.YtajjhaidpagflaaGreatQWlB
set_option linter.unusedSectionVars false
set_option linter.unusedSimpArgs false
set_option linter.unusedVariables false
namespace Go.Proofs.YtajjhaidpagflaaGreat
open Go Go.Eng
set_option maxRecDepth 100000
theorem run52_01n (R:Nat→List (List HV)) (N:Nat→Int) (h:WlIn R 5 2): @runsN (wlT R N 5 2 h) 5 2 0 (.bool true) w52v w52n w52m=true:=by kernel_rfl
theorem run52_01m (R:Nat→List (List HV)) (N:Nat→Int) (h:WlIn R 5 2): @runsM (wlT R N 5 2 h) 5 2 0 (.bool true) false w52v w52n w52m=true:=by kernel_rfl
theorem run52_01k (R:Nat→List (List HV)) (N:Nat→Int) (h:WlIn R 5 2): @runsM (wlT R N 5 2 h) 5 2 0 (.bool true) true w52v w52n w52m=true:=by kernel_rfl
theorem run52_11n (R:Nat→List (List HV)) (N:Nat→Int) (h:WlIn R 5 2): @runsN (wlT R N 5 2 h) 5 2 1 (.bool true) w52v w52n w52m=true:=by kernel_rfl
theorem run52_11m (R:Nat→List (List HV)) (N:Nat→Int) (h:WlIn R 5 2): @runsM (wlT R N 5 2 h) 5 2 1 (.bool true) false w52v w52n w52m=true:=by kernel_rfl
theorem run52_11k (R:Nat→List (List HV)) (N:Nat→Int) (h:WlIn R 5 2): @runsM (wlT R N 5 2 h) 5 2 1 (.bool true) true w52v w52n w52m=true:=by kernel_rfl
theorem run52_21n (R:Nat→List (List HV)) (N:Nat→Int) (h:WlIn R 5 2): @runsN (wlT R N 5 2 h) 5 2 2 (.bool true) w52v w52n w52m=true:=by kernel_rfl
theorem run52_21m (R:Nat→List (List HV)) (N:Nat→Int) (h:WlIn R 5 2): @runsM (wlT R N 5 2 h) 5 2 2 (.bool true) false w52v w52n w52m=true:=by kernel_rfl
theorem run52_21k (R:Nat→List (List HV)) (N:Nat→Int) (h:WlIn R 5 2): @runsM (wlT R N 5 2 h) 5 2 2 (.bool true) true w52v w52n w52m=true:=by kernel_rfl
end Go.Proofs.YtajjhaidpagflaaGreat
