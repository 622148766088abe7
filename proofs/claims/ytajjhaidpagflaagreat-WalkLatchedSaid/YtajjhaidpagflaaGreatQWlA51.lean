/-
The law WalkLatched, run: 1 pivots.
No conditions.
-/
import Derived.Test.YtajjhaidpagflaaGreatQWlB
set_option linter.unusedSectionVars false
set_option linter.unusedSimpArgs false
set_option linter.unusedVariables false
namespace Go.Proofs.YtajjhaidpagflaaGreat
open Go Go.Eng
set_option maxRecDepth 100000
theorem plant51_ (R:Nat→List (List HV)) (N:Nat→Int) (h:WlIn R 5 1) (ok: @TabOk (wlT R N 5 1 h) (tabP 5 1)): @CutR (wlT R N 5 1 h) Tryz.prog 4 (patW 5) 0 [] w51v w51n w51m:=by
  letI:Toks:=wlT R N 5 1 h
  exact cut_run mixed' (orcK_ok ok) covers (fuel:=100000) (d:=60) (by kernel_rfl)
end Go.Proofs.YtajjhaidpagflaaGreat
