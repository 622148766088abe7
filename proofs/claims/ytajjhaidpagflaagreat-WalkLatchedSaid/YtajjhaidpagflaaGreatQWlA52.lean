/-
The law WalkLatched, run: 2 pivots.
No conditions.
-/
import Derived.Test.YtajjhaidpagflaaGreatQWlB
set_option linter.unusedSectionVars false
set_option linter.unusedSimpArgs false
set_option linter.unusedVariables false
namespace Go.Proofs.YtajjhaidpagflaaGreat
open Go Go.Eng
set_option maxRecDepth 100000
theorem plant52_ (R:Nat→List (List HV)) (N:Nat→Int) (h:WlIn R 5 2) (ok: @TabOk (wlT R N 5 2 h) (tabP 5 2)): @CutR (wlT R N 5 2 h) Tryz.prog 4 (patW 5) 0 [] w52v w52n w52m:=by
  letI:Toks:=wlT R N 5 2 h
  exact cut_run mixed' (orcK_ok ok) covers (fuel:=100000) (d:=60) (by kernel_rfl)
end Go.Proofs.YtajjhaidpagflaaGreat
