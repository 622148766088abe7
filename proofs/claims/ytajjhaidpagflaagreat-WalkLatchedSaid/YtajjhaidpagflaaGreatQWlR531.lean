/-
The law WalkLatched, run: 3 pivots; the kid is written.
No conditions.
-/
import Derived.Test.YtajjhaidpagflaaGreatQWlB
set_option linter.unusedSectionVars false
set_option linter.unusedSimpArgs false
set_option linter.unusedVariables false
namespace Go.Proofs.YtajjhaidpagflaaGreat
open Go Go.Eng
set_option maxRecDepth 100000
theorem run53_01n (R:Nat→List (List HV)) (N:Nat→Int) (h:WlIn R 5 3): @runsN (wlT R N 5 3 h) 5 3 0 (.bool true) w53v w53n w53m=true:=by kernel_rfl
theorem run53_01m (R:Nat→List (List HV)) (N:Nat→Int) (h:WlIn R 5 3): @runsM (wlT R N 5 3 h) 5 3 0 (.bool true) false w53v w53n w53m=true:=by kernel_rfl
theorem run53_01k (R:Nat→List (List HV)) (N:Nat→Int) (h:WlIn R 5 3): @runsM (wlT R N 5 3 h) 5 3 0 (.bool true) true w53v w53n w53m=true:=by kernel_rfl
theorem run53_11n (R:Nat→List (List HV)) (N:Nat→Int) (h:WlIn R 5 3): @runsN (wlT R N 5 3 h) 5 3 1 (.bool true) w53v w53n w53m=true:=by kernel_rfl
theorem run53_11m (R:Nat→List (List HV)) (N:Nat→Int) (h:WlIn R 5 3): @runsM (wlT R N 5 3 h) 5 3 1 (.bool true) false w53v w53n w53m=true:=by kernel_rfl
theorem run53_11k (R:Nat→List (List HV)) (N:Nat→Int) (h:WlIn R 5 3): @runsM (wlT R N 5 3 h) 5 3 1 (.bool true) true w53v w53n w53m=true:=by kernel_rfl
theorem run53_21n (R:Nat→List (List HV)) (N:Nat→Int) (h:WlIn R 5 3): @runsN (wlT R N 5 3 h) 5 3 2 (.bool true) w53v w53n w53m=true:=by kernel_rfl
theorem run53_21m (R:Nat→List (List HV)) (N:Nat→Int) (h:WlIn R 5 3): @runsM (wlT R N 5 3 h) 5 3 2 (.bool true) false w53v w53n w53m=true:=by kernel_rfl
theorem run53_21k (R:Nat→List (List HV)) (N:Nat→Int) (h:WlIn R 5 3): @runsM (wlT R N 5 3 h) 5 3 2 (.bool true) true w53v w53n w53m=true:=by kernel_rfl
theorem run53_31n (R:Nat→List (List HV)) (N:Nat→Int) (h:WlIn R 5 3): @runsN (wlT R N 5 3 h) 5 3 3 (.bool true) w53v w53n w53m=true:=by kernel_rfl
theorem run53_31m (R:Nat→List (List HV)) (N:Nat→Int) (h:WlIn R 5 3): @runsM (wlT R N 5 3 h) 5 3 3 (.bool true) false w53v w53n w53m=true:=by kernel_rfl
theorem run53_31k (R:Nat→List (List HV)) (N:Nat→Int) (h:WlIn R 5 3): @runsM (wlT R N 5 3 h) 5 3 3 (.bool true) true w53v w53n w53m=true:=by kernel_rfl
end Go.Proofs.YtajjhaidpagflaaGreat
