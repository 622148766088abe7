/-
The law FlushDue, run: 1 pivots, no numbers for them.
No conditions.
-/
import Derived.Test.YtbmibhjjogobhaaGreatQFdB
set_option linter.unusedSectionVars false
set_option linter.unusedSimpArgs false
set_option linter.unusedVariables false
namespace Go.Proofs.YtbmibhjjogobhaaGreat
open Go Go.Eng
set_option maxRecDepth 100000
theorem VD (R:Nat→List (List HV)) (N:Nat→Int) (b:Bool) (h:qI R N 6 1 b) (hs: @yg (fdT R N 6 1 b h) Tryz.prog 98 yu) (ok: @qH (fdT R N 6 1 b h) (qB 6 1)): @jU (fdT R N 6 1 b h) Tryz.prog 4 (Zg 6) 0 [] zE3 zCX Qu:=by
 letI:zB:=fdT R N 6 1 b h
 exact xJ kG (gi hs ok) gZ (fuel:=100000) (d:=60) (by kernel_rfl)
theorem Ws (R:Nat→List (List HV)) (N:Nat→Int) (b:Bool) (h:qI R N 6 1 b) (hs: @yg (fdT R N 6 1 b h) Tryz.prog 98 yu) (ok: @qH (fdT R N 6 1 b h) (qB 6 1)): @jU (fdT R N 6 1 b h) Tryz.prog 5 (ZU zE3) zCX Qu zQm zLs zLd:=by
 letI:zB:=fdT R N 6 1 b h
 exact xJ kG (gi hs ok) gZ (fuel:=100000) (d:=60) (by kernel_rfl)
theorem zGi (R:Nat→List (List HV)) (N:Nat→Int) (h:qI R N 6 1 true) (hs: @yg (fdT R N 6 1 true h) Tryz.prog 98 yu) (ok: @qH (fdT R N 6 1 true h) (qB 6 1)): @zI (fdT R N 6 1 true h) Tryz.prog 3 [pvW 6,.nam 3,.nam 4,.bool true] [] fun r _=>r=.bool true:=by
 letI:zB:=fdT R N 6 1 true h
 exact vQ hs ok (VD R N true h hs ok) (Ws R N true h hs ok) (by kernel_rfl)
theorem zOA (R:Nat→List (List HV)) (N:Nat→Int) (h:qI R N 6 1 true) (hs: @yg (fdT R N 6 1 true h) Tryz.prog 98 yu) (ok: @qH (fdT R N 6 1 true h) (qB 6 1)): @zI (fdT R N 6 1 true h) Tryz.prog 3 [pvW 6,.nam 3,.nam 4,.bool false] [] fun r _=>r=.bool true:=by
 letI:zB:=fdT R N 6 1 true h
 exact vQ hs ok (VD R N true h hs ok) (Ws R N true h hs ok) (by kernel_rfl)
theorem zGh (R:Nat→List (List HV)) (N:Nat→Int) (h:qI R N 6 1 false) (hs: @yg (fdT R N 6 1 false h) Tryz.prog 98 yu) (ok: @qH (fdT R N 6 1 false h) (qB 6 1)): @zI (fdT R N 6 1 false h) Tryz.prog 3 [pvW 6,.nam 3,.nam 4,.bool true] [] fun r _=>r=.bool true:=by
 letI:zB:=fdT R N 6 1 false h
 exact vQ hs ok (VD R N false h hs ok) (Ws R N false h hs ok) (by kernel_rfl)
theorem zHt (R:Nat→List (List HV)) (N:Nat→Int) (h:qI R N 6 1 false) (hs: @yg (fdT R N 6 1 false h) Tryz.prog 98 yu) (ok: @qH (fdT R N 6 1 false h) (qB 6 1)): @zI (fdT R N 6 1 false h) Tryz.prog 3 [pvW 6,.nam 3,.nam 4,.bool false] [] fun r _=>r=.bool true:=by
 letI:zB:=fdT R N 6 1 false h
 exact vQ hs ok (VD R N false h hs ok) (Ws R N false h hs ok) (by kernel_rfl)
end Go.Proofs.YtbmibhjjogobhaaGreat
