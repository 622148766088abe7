/-
The law FlushDue, run: 3 pivots.
No conditions.
-/
import Derived.Test.YtbmibhjjogobhaaGreatQFdB
set_option linter.unusedSectionVars false
set_option linter.unusedSimpArgs false
set_option linter.unusedVariables false
namespace Go.Proofs.YtbmibhjjogobhaaGreat
open Go Go.Eng
set_option maxRecDepth 100000
theorem Vv (R:Nat→List (List HV)) (N:Nat→Int) (b:Bool) (h:qI R N 5 3 b) (hs: @yg (fdT R N 5 3 b h) Tryz.prog 98 yu) (ok: @qH (fdT R N 5 3 b h) (qB 5 3)): @jU (fdT R N 5 3 b h) Tryz.prog 4 (Zg 5) 0 [] zBd zFf JW:=by
 letI:zB:=fdT R N 5 3 b h
 exact xJ kG (gi hs ok) gZ (fuel:=100000) (d:=60) (by kernel_rfl)
theorem VY (R:Nat→List (List HV)) (N:Nat→Int) (b:Bool) (h:qI R N 5 3 b) (hs: @yg (fdT R N 5 3 b h) Tryz.prog 98 yu) (ok: @qH (fdT R N 5 3 b h) (qB 5 3)): @jU (fdT R N 5 3 b h) Tryz.prog 5 (ZU zBd) zFf JW zHG zPM zPJ:=by
 letI:zB:=fdT R N 5 3 b h
 exact xJ kG (gi hs ok) gZ (fuel:=100000) (d:=60) (by kernel_rfl)
theorem zJ9 (R:Nat→List (List HV)) (N:Nat→Int) (h:qI R N 5 3 true) (hs: @yg (fdT R N 5 3 true h) Tryz.prog 98 yu) (ok: @qH (fdT R N 5 3 true h) (qB 5 3)): @zI (fdT R N 5 3 true h) Tryz.prog 3 [pvW 5,.nam 3,.nam 4,.bool true] [] fun r _=>r=.bool true:=by
 letI:zB:=fdT R N 5 3 true h
 exact vQ hs ok (Vv R N true h hs ok) (VY R N true h hs ok) (by kernel_rfl)
theorem zGC (R:Nat→List (List HV)) (N:Nat→Int) (h:qI R N 5 3 true) (hs: @yg (fdT R N 5 3 true h) Tryz.prog 98 yu) (ok: @qH (fdT R N 5 3 true h) (qB 5 3)): @zI (fdT R N 5 3 true h) Tryz.prog 3 [pvW 5,.nam 3,.nam 4,.bool false] [] fun r _=>r=.bool true:=by
 letI:zB:=fdT R N 5 3 true h
 exact vQ hs ok (Vv R N true h hs ok) (VY R N true h hs ok) (by kernel_rfl)
theorem zG5 (R:Nat→List (List HV)) (N:Nat→Int) (h:qI R N 5 3 false) (hs: @yg (fdT R N 5 3 false h) Tryz.prog 98 yu) (ok: @qH (fdT R N 5 3 false h) (qB 5 3)): @zI (fdT R N 5 3 false h) Tryz.prog 3 [pvW 5,.nam 3,.nam 4,.bool true] [] fun r _=>r=.bool true:=by
 letI:zB:=fdT R N 5 3 false h
 exact vQ hs ok (Vv R N false h hs ok) (VY R N false h hs ok) (by kernel_rfl)
theorem zLt (R:Nat→List (List HV)) (N:Nat→Int) (h:qI R N 5 3 false) (hs: @yg (fdT R N 5 3 false h) Tryz.prog 98 yu) (ok: @qH (fdT R N 5 3 false h) (qB 5 3)): @zI (fdT R N 5 3 false h) Tryz.prog 3 [pvW 5,.nam 3,.nam 4,.bool false] [] fun r _=>r=.bool true:=by
 letI:zB:=fdT R N 5 3 false h
 exact vQ hs ok (Vv R N false h hs ok) (VY R N false h hs ok) (by kernel_rfl)
end Go.Proofs.YtbmibhjjogobhaaGreat
