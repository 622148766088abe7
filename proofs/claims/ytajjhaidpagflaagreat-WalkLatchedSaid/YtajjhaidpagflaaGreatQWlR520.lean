/-
The law WalkLatched, run: 2 pivots; Root is written.
No conditions.
-/
import Derived.Test.YtajjhaidpagflaaGreatQWlB
set_option linter.unusedSectionVars false
set_option linter.unusedSimpArgs false
set_option linter.unusedVariables false
namespace Go.Proofs.YtajjhaidpagflaaGreat
open Go Go.Eng
set_option maxRecDepth 100000
theorem run52_00n (R:Nat→List (List HV)) (N:Nat→Int) (h:WlIn R 5 2): @runsN (wlT R N 5 2 h) 5 2 0 (.bool false) w52v w52n w52m=true:=by kernel_rfl
theorem run52_00m (R:Nat→List (List HV)) (N:Nat→Int) (h:WlIn R 5 2): @runsM (wlT R N 5 2 h) 5 2 0 (.bool false) false w52v w52n w52m=true:=by kernel_rfl
theorem run52_00k (R:Nat→List (List HV)) (N:Nat→Int) (h:WlIn R 5 2): @runsM (wlT R N 5 2 h) 5 2 0 (.bool false) true w52v w52n w52m=true:=by kernel_rfl
theorem run52_10n (R:Nat→List (List HV)) (N:Nat→Int) (h:WlIn R 5 2): @runsN (wlT R N 5 2 h) 5 2 1 (.bool false) w52v w52n w52m=true:=by kernel_rfl
theorem run52_10m (R:Nat→List (List HV)) (N:Nat→Int) (h:WlIn R 5 2): @runsM (wlT R N 5 2 h) 5 2 1 (.bool false) false w52v w52n w52m=true:=by kernel_rfl
theorem run52_10k (R:Nat→List (List HV)) (N:Nat→Int) (h:WlIn R 5 2): @runsM (wlT R N 5 2 h) 5 2 1 (.bool false) true w52v w52n w52m=true:=by kernel_rfl
theorem run52_20n (R:Nat→List (List HV)) (N:Nat→Int) (h:WlIn R 5 2): @runsN (wlT R N 5 2 h) 5 2 2 (.bool false) w52v w52n w52m=true:=by kernel_rfl
theorem run52_20m (R:Nat→List (List HV)) (N:Nat→Int) (h:WlIn R 5 2): @runsM (wlT R N 5 2 h) 5 2 2 (.bool false) false w52v w52n w52m=true:=by kernel_rfl
theorem run52_20k (R:Nat→List (List HV)) (N:Nat→Int) (h:WlIn R 5 2): @runsM (wlT R N 5 2 h) 5 2 2 (.bool false) true w52v w52n w52m=true:=by kernel_rfl
end Go.Proofs.YtajjhaidpagflaaGreat
