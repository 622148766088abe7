/-
  Facts of the program, printed by a program of mine: walks.
  No conditions.
-/
import Derived.Test.YtocplecibgckoaaGreatFactsA
import Derived.Test.YtocplecibgckoaaGreatEngW
namespace Go.Proofs.YtocplecibgckoaaGreat
open Go Go.Eng
set_option maxRecDepth 20000
/-- orangery/audit.held -/
def pl_77 (n : Nat) : Plan :=
  let _ := n; .done
def tb_77 (n : Nat) : List Row :=
  let _ := n; []
theorem enter_77 {c : Code} {args : List HV} {PS : PL} {K : HV → PL → Prop} (hc : Tryz.f77.body = some c) (h : hvc (hop Tryz.prog) (drawBy Tryz.prog pu pl_77) c (hret Tryz.prog [.tmp 4] K) (hframe 9 args) PS) : HCall Tryz.prog 77 args PS K := by
  have hp : (match Tryz.f77.body with | some c => plansOk pu tb_77 pl_77 c | none => true) = true := by kernel_rfl
  rw [hc] at hp
  refine hcall_of_plans tb_77 pl_77 pu mixed Tryz.func77 hc hp ?_
  rw [Tryz.results77, Tryz.ntmps77]
  exact h
end Go.Proofs.YtocplecibgckoaaGreat
