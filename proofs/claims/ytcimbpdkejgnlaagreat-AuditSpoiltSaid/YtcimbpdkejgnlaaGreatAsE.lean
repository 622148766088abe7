/-
  The law AuditSpoilt, run: the value by name, each way.
  No conditions.
-/
import Derived.Test.YtcimbpdkejgnlaaGreatAs1
namespace Go.Proofs.YtcimbpdkejgnlaaGreat
open Go Go.Eng Go.Mo
set_option linter.unusedSectionVars false
set_option maxRecDepth 100000
theorem as_7 (v kd : Int) (h : HlIn [] (genV v) v kd 0 0 0 16) (hk : kd % 10 = 7) : @HCall (hlT [] (genV v) v kd 0 0 0 16 h) Tryz.prog 11 [.tok .i64 5, .tok .i64 3] [] fun r _ => r = .bool true := by
  letI : Toks := hlT [] (genV v) v kd 0 0 0 16 h
  exact trueG (orcAD_ok (asOk h hk)) (fuel := 100000) (d := 60) (by kernel_rfl)
theorem as_8 (v kd : Int) (h : HlIn [] (genV v) v kd 0 0 0 16) (hk : kd % 10 = 8) : @HCall (hlT [] (genV v) v kd 0 0 0 16 h) Tryz.prog 11 [.tok .i64 5, .tok .i64 3] [] fun r _ => r = .bool true := by
  letI : Toks := hlT [] (genV v) v kd 0 0 0 16 h
  exact trueG (orcAD_ok (asOk h hk)) (fuel := 100000) (d := 60) (by kernel_rfl)
theorem as_9 (v kd : Int) (h : HlIn [] (genV v) v kd 0 0 0 16) (hk : kd % 10 = 9) : @HCall (hlT [] (genV v) v kd 0 0 0 16 h) Tryz.prog 11 [.tok .i64 5, .tok .i64 3] [] fun r _ => r = .bool true := by
  letI : Toks := hlT [] (genV v) v kd 0 0 0 16 h
  exact trueG (orcAD_ok (asOk h hk)) (fuel := 100000) (d := 60) (by kernel_rfl)
end Go.Proofs.YtcimbpdkejgnlaaGreat
