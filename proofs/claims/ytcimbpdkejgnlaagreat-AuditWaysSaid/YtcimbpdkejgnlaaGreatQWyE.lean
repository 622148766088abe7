/-
  The law AuditWays, run: at every two numbers.
  No conditions.
-/
import Derived.Test.YtcimbpdkejgnlaaGreatQWyB
import Derived.Test.YtcimbpdkejgnlaaGreatQWyC
import Derived.Test.YtcimbpdkejgnlaaGreatQWyD
set_option linter.unusedSectionVars false
set_option linter.unusedSimpArgs false
set_option linter.unusedVariables false
namespace Go.Proofs.YtcimbpdkejgnlaaGreat
open Go Go.Eng Go.Mo
set_option maxRecDepth 100000
theorem ways_ (u v : Int) (hu : 0 ≤ u ∧ u ≤ 255) (hv : 0 ≤ v ∧ v ≤ 255) :
    ∃ T : Toks, @HCall T Tryz.prog 12 [.int .u8 u, .int .u8 v] [] fun r _ => r = .bool true := by
  have no : ∀ o, (none : Option Ordering) = some o → compare u v = o := fun o h => by cases h
  by_cases hu0 : u = 0
  · subst hu0
    refine ⟨wyT 0 v 0 0 none (by omega) hv no, ?_⟩
    letI : Toks := wyT 0 v 0 0 none (by omega) hv no
    exact HCall.sub (args := [.int .u8 0, .tok .u8 1]) ⟨Sub.refl _, Sub.tok rfl, trivial⟩ (wy_a 0 v _ hv no)
  have hu1 : 1 ≤ u ∧ u ≤ 255 := by omega
  by_cases hv0 : v = 0
  · subst hv0
    refine ⟨wyT u 0 1 0 none hu1 hv no, ?_⟩
    letI : Toks := wyT u 0 1 0 none hu1 hv no
    exact HCall.sub (args := [.tok .u8 0, .int .u8 0]) ⟨Sub.tok rfl, Sub.refl _, trivial⟩ (wy_b u 0 hu1 hv no)
  have hv1 : 1 ≤ v ∧ v ≤ 255 := by omega
  by_cases he : u = v
  · subst he
    refine ⟨wyT u u 1 0 none hu1 hv no, ?_⟩
    letI : Toks := wyT u u 1 0 none hu1 hv no
    exact HCall.sub (args := [.tok .u8 0, .tok .u8 0]) ⟨Sub.tok rfl, Sub.tok rfl, trivial⟩ (wy_c u u hu1 hv no)
  by_cases hl : u < v
  · have hc : ∀ o, some Ordering.lt = some o → compare u v = o := fun o h => by cases h; exact Int.compare_eq_lt.2 hl
    refine ⟨wyT u v 1 1 (some .lt) hu1 hv1 hc, ?_⟩
    letI : Toks := wyT u v 1 1 (some .lt) hu1 hv1 hc
    exact HCall.sub (args := [.tok .u8 0, .tok .u8 1]) ⟨Sub.tok rfl, Sub.tok rfl, trivial⟩ (wy_e u v hu1 hv1 hc)
  · have hc : ∀ o, some Ordering.gt = some o → compare u v = o := fun o h => by cases h; exact Int.compare_eq_gt.2 (by omega)
    refine ⟨wyT u v 1 1 (some .gt) hu1 hv1 hc, ?_⟩
    letI : Toks := wyT u v 1 1 (some .gt) hu1 hv1 hc
    exact HCall.sub (args := [.tok .u8 0, .tok .u8 1]) ⟨Sub.tok rfl, Sub.tok rfl, trivial⟩ (wy_d u v hu1 hv1 hc)
end Go.Proofs.YtcimbpdkejgnlaaGreat
