/-
The law FlushDue, run: 1 pivots.
No conditions.
-/
import Derived.Test.YtbmibhjjogobhaaGreatQFdB
set_option linter.unusedSectionVars false
set_option linter.unusedSimpArgs false
set_option linter.unusedVariables false
namespace Go.Proofs.YtbmibhjjogobhaaGreat
open Go Go.Eng
set_option maxRecDepth 100000
theorem Ve (R:Nat→List (List HV)) (N:Nat→Int) (b:Bool) (h:qI R N 5 1 b) (hs: @yg (fdT R N 5 1 b h) Tryz.prog 98 yu) (ok: @qH (fdT R N 5 1 b h) (qB 5 1)): @jU (fdT R N 5 1 b h) Tryz.prog 4 (Zg 5) 0 [] zCS zFn Gj:=by
 letI:zB:=fdT R N 5 1 b h
 exact xJ kG (gi hs ok) gZ (fuel:=100000) (d:=60) (by kernel_rfl)
theorem Vr (R:Nat→List (List HV)) (N:Nat→Int) (b:Bool) (h:qI R N 5 1 b) (hs: @yg (fdT R N 5 1 b h) Tryz.prog 98 yu) (ok: @qH (fdT R N 5 1 b h) (qB 5 1)): @jU (fdT R N 5 1 b h) Tryz.prog 5 (ZU zCS) zFn Gj zNl zMj zGX:=by
 letI:zB:=fdT R N 5 1 b h
 exact xJ kG (gi hs ok) gZ (fuel:=100000) (d:=60) (by kernel_rfl)
theorem zLy (R:Nat→List (List HV)) (N:Nat→Int) (h:qI R N 5 1 true) (hs: @yg (fdT R N 5 1 true h) Tryz.prog 98 yu) (ok: @qH (fdT R N 5 1 true h) (qB 5 1)): @zI (fdT R N 5 1 true h) Tryz.prog 3 [pvW 5,.nam 3,.nam 4,.bool true] [] fun r _=>r=.bool true:=by
 letI:zB:=fdT R N 5 1 true h
 exact vQ hs ok (Ve R N true h hs ok) (Vr R N true h hs ok) (by kernel_rfl)
theorem zHs (R:Nat→List (List HV)) (N:Nat→Int) (h:qI R N 5 1 true) (hs: @yg (fdT R N 5 1 true h) Tryz.prog 98 yu) (ok: @qH (fdT R N 5 1 true h) (qB 5 1)): @zI (fdT R N 5 1 true h) Tryz.prog 3 [pvW 5,.nam 3,.nam 4,.bool false] [] fun r _=>r=.bool true:=by
 letI:zB:=fdT R N 5 1 true h
 exact vQ hs ok (Ve R N true h hs ok) (Vr R N true h hs ok) (by kernel_rfl)
theorem zH4 (R:Nat→List (List HV)) (N:Nat→Int) (h:qI R N 5 1 false) (hs: @yg (fdT R N 5 1 false h) Tryz.prog 98 yu) (ok: @qH (fdT R N 5 1 false h) (qB 5 1)): @zI (fdT R N 5 1 false h) Tryz.prog 3 [pvW 5,.nam 3,.nam 4,.bool true] [] fun r _=>r=.bool true:=by
 letI:zB:=fdT R N 5 1 false h
 exact vQ hs ok (Ve R N false h hs ok) (Vr R N false h hs ok) (by kernel_rfl)
theorem zO0 (R:Nat→List (List HV)) (N:Nat→Int) (h:qI R N 5 1 false) (hs: @yg (fdT R N 5 1 false h) Tryz.prog 98 yu) (ok: @qH (fdT R N 5 1 false h) (qB 5 1)): @zI (fdT R N 5 1 false h) Tryz.prog 3 [pvW 5,.nam 3,.nam 4,.bool false] [] fun r _=>r=.bool true:=by
 letI:zB:=fdT R N 5 1 false h
 exact vQ hs ok (Ve R N false h hs ok) (Vr R N false h hs ok) (by kernel_rfl)
end Go.Proofs.YtbmibhjjogobhaaGreat
