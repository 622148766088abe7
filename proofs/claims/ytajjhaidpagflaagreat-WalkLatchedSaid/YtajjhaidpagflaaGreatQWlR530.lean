/-
The law WalkLatched, run: 3 pivots; Root is written.
No conditions.
-/
import Derived.Test.YtajjhaidpagflaaGreatQWlB
set_option linter.unusedSectionVars false
set_option linter.unusedSimpArgs false
set_option linter.unusedVariables false
namespace Go.Proofs.YtajjhaidpagflaaGreat
open Go Go.Eng
set_option maxRecDepth 100000
theorem run53_00n (R:Nat→List (List HV)) (N:Nat→Int) (h:WlIn R 5 3): @runsN (wlT R N 5 3 h) 5 3 0 (.bool false) w53v w53n w53m=true:=by kernel_rfl
theorem run53_00m (R:Nat→List (List HV)) (N:Nat→Int) (h:WlIn R 5 3): @runsM (wlT R N 5 3 h) 5 3 0 (.bool false) false w53v w53n w53m=true:=by kernel_rfl
theorem run53_00k (R:Nat→List (List HV)) (N:Nat→Int) (h:WlIn R 5 3): @runsM (wlT R N 5 3 h) 5 3 0 (.bool false) true w53v w53n w53m=true:=by kernel_rfl
theorem run53_10n (R:Nat→List (List HV)) (N:Nat→Int) (h:WlIn R 5 3): @runsN (wlT R N 5 3 h) 5 3 1 (.bool false) w53v w53n w53m=true:=by kernel_rfl
theorem run53_10m (R:Nat→List (List HV)) (N:Nat→Int) (h:WlIn R 5 3): @runsM (wlT R N 5 3 h) 5 3 1 (.bool false) false w53v w53n w53m=true:=by kernel_rfl
theorem run53_10k (R:Nat→List (List HV)) (N:Nat→Int) (h:WlIn R 5 3): @runsM (wlT R N 5 3 h) 5 3 1 (.bool false) true w53v w53n w53m=true:=by kernel_rfl
theorem run53_20n (R:Nat→List (List HV)) (N:Nat→Int) (h:WlIn R 5 3): @runsN (wlT R N 5 3 h) 5 3 2 (.bool false) w53v w53n w53m=true:=by kernel_rfl
theorem run53_20m (R:Nat→List (List HV)) (N:Nat→Int) (h:WlIn R 5 3): @runsM (wlT R N 5 3 h) 5 3 2 (.bool false) false w53v w53n w53m=true:=by kernel_rfl
theorem run53_20k (R:Nat→List (List HV)) (N:Nat→Int) (h:WlIn R 5 3): @runsM (wlT R N 5 3 h) 5 3 2 (.bool false) true w53v w53n w53m=true:=by kernel_rfl
theorem run53_30n (R:Nat→List (List HV)) (N:Nat→Int) (h:WlIn R 5 3): @runsN (wlT R N 5 3 h) 5 3 3 (.bool false) w53v w53n w53m=true:=by kernel_rfl
theorem run53_30m (R:Nat→List (List HV)) (N:Nat→Int) (h:WlIn R 5 3): @runsM (wlT R N 5 3 h) 5 3 3 (.bool false) false w53v w53n w53m=true:=by kernel_rfl
theorem run53_30k (R:Nat→List (List HV)) (N:Nat→Int) (h:WlIn R 5 3): @runsM (wlT R N 5 3 h) 5 3 3 (.bool false) true w53v w53n w53m=true:=by kernel_rfl
end Go.Proofs.YtajjhaidpagflaaGreat
