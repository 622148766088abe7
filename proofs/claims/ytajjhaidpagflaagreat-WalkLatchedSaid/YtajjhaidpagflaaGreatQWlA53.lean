/-
The law WalkLatched, run: 3 pivots.
No conditions.
-/
import Derived.Test.YtajjhaidpagflaaGreatQWlB
set_option linter.unusedSectionVars false
set_option linter.unusedSimpArgs false
set_option linter.unusedVariables false
namespace Go.Proofs.YtajjhaidpagflaaGreat
open Go Go.Eng
set_option maxRecDepth 100000
theorem plant53_ (R:Nat→List (List HV)) (N:Nat→Int) (h:WlIn R 5 3) (ok: @TabOk (wlT R N 5 3 h) (tabP 5 3)): @CutR (wlT R N 5 3 h) Tryz.prog 4 (patW 5) 0 [] w53v w53n w53m:=by
  letI:Toks:=wlT R N 5 3 h
  exact cut_run mixed' (orcK_ok ok) covers (fuel:=100000) (d:=60) (by kernel_rfl)
end Go.Proofs.YtajjhaidpagflaaGreat
