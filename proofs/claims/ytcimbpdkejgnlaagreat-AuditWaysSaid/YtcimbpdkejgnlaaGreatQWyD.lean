/-
  The law AuditWays, run: five cases, two numbers by name.
  No conditions.
-/
import Derived.Test.YtcimbpdkejgnlaaGreatQWyL
set_option linter.unusedSectionVars false
set_option linter.unusedSimpArgs false
set_option linter.unusedVariables false
namespace Go.Proofs.YtcimbpdkejgnlaaGreat
open Go Go.Eng Go.Mo
set_option maxRecDepth 100000
theorem wy_e (u v : Int) (hu : 1 ≤ u ∧ u ≤ 255) (hv : 1 ≤ v ∧ v ≤ 255) (hc : ∀ o, (some .lt) = some o → compare u v = o) : @HCall (wyT u v 1 1 (some .lt) hu hv hc) Tryz.prog 12 [.tok .u8 0, .tok .u8 1] [] fun r _ => r = .bool true := by
  letI : Toks := wyT u v 1 1 (some .lt) hu hv hc
  exact trueG orcF_ok (fuel := 100000) (d := 60) (by kernel_rfl)
end Go.Proofs.YtcimbpdkejgnlaaGreat
