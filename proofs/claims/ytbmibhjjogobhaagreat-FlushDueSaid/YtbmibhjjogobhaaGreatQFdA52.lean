/-
The law FlushDue, run: 2 pivots.
No conditions.
-/
import Derived.Test.YtbmibhjjogobhaaGreatQFdB
set_option linter.unusedSectionVars false
set_option linter.unusedSimpArgs false
set_option linter.unusedVariables false
namespace Go.Proofs.YtbmibhjjogobhaaGreat
open Go Go.Eng
set_option maxRecDepth 100000
theorem Ud (R:Nat→List (List HV)) (N:Nat→Int) (b:Bool) (h:qI R N 5 2 b) (hs: @yg (fdT R N 5 2 b h) Tryz.prog 98 yu) (ok: @qH (fdT R N 5 2 b h) (qB 5 2)): @jU (fdT R N 5 2 b h) Tryz.prog 4 (Zg 5) 0 [] zAt zFK GN:=by
 letI:zB:=fdT R N 5 2 b h
 exact xJ kG (gi hs ok) gZ (fuel:=100000) (d:=60) (by kernel_rfl)
theorem Wc (R:Nat→List (List HV)) (N:Nat→Int) (b:Bool) (h:qI R N 5 2 b) (hs: @yg (fdT R N 5 2 b h) Tryz.prog 98 yu) (ok: @qH (fdT R N 5 2 b h) (qB 5 2)): @jU (fdT R N 5 2 b h) Tryz.prog 5 (ZU zAt) zFK GN zKV zHA zK8:=by
 letI:zB:=fdT R N 5 2 b h
 exact xJ kG (gi hs ok) gZ (fuel:=100000) (d:=60) (by kernel_rfl)
theorem zOj (R:Nat→List (List HV)) (N:Nat→Int) (h:qI R N 5 2 true) (hs: @yg (fdT R N 5 2 true h) Tryz.prog 98 yu) (ok: @qH (fdT R N 5 2 true h) (qB 5 2)): @zI (fdT R N 5 2 true h) Tryz.prog 3 [pvW 5,.nam 3,.nam 4,.bool true] [] fun r _=>r=.bool true:=by
 letI:zB:=fdT R N 5 2 true h
 exact vQ hs ok (Ud R N true h hs ok) (Wc R N true h hs ok) (by kernel_rfl)
theorem zO1 (R:Nat→List (List HV)) (N:Nat→Int) (h:qI R N 5 2 true) (hs: @yg (fdT R N 5 2 true h) Tryz.prog 98 yu) (ok: @qH (fdT R N 5 2 true h) (qB 5 2)): @zI (fdT R N 5 2 true h) Tryz.prog 3 [pvW 5,.nam 3,.nam 4,.bool false] [] fun r _=>r=.bool true:=by
 letI:zB:=fdT R N 5 2 true h
 exact vQ hs ok (Ud R N true h hs ok) (Wc R N true h hs ok) (by kernel_rfl)
theorem zLZ (R:Nat→List (List HV)) (N:Nat→Int) (h:qI R N 5 2 false) (hs: @yg (fdT R N 5 2 false h) Tryz.prog 98 yu) (ok: @qH (fdT R N 5 2 false h) (qB 5 2)): @zI (fdT R N 5 2 false h) Tryz.prog 3 [pvW 5,.nam 3,.nam 4,.bool true] [] fun r _=>r=.bool true:=by
 letI:zB:=fdT R N 5 2 false h
 exact vQ hs ok (Ud R N false h hs ok) (Wc R N false h hs ok) (by kernel_rfl)
theorem zNu (R:Nat→List (List HV)) (N:Nat→Int) (h:qI R N 5 2 false) (hs: @yg (fdT R N 5 2 false h) Tryz.prog 98 yu) (ok: @qH (fdT R N 5 2 false h) (qB 5 2)): @zI (fdT R N 5 2 false h) Tryz.prog 3 [pvW 5,.nam 3,.nam 4,.bool false] [] fun r _=>r=.bool true:=by
 letI:zB:=fdT R N 5 2 false h
 exact vQ hs ok (Ud R N false h hs ok) (Wc R N false h hs ok) (by kernel_rfl)
end Go.Proofs.YtbmibhjjogobhaaGreat
