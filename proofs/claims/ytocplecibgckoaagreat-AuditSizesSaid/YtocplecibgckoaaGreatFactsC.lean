/-
  Facts of the program, printed by a program of mine: walks.
  No conditions.
-/
import Derived.Test.YtocplecibgckoaaGreatFactsA
import Derived.Test.YtocplecibgckoaaGreatEngW
namespace Go.Proofs.YtocplecibgckoaaGreat
open Go Go.Eng
set_option maxRecDepth 20000
/-- orangery/hist.Large -/
def pl_75 (n : Nat) : Plan :=
  let _ := n; .done
def tb_75 (n : Nat) : List Row :=
  let _ := n; []
theorem enter_75 {c : Code} {args : List HV} {PS : PL} {K : HV → PL → Prop} (hc : Tryz.f75.body = some c) (h : hvc (hop Tryz.prog) (drawBy Tryz.prog pu pl_75) c (hret Tryz.prog [.tmp 2] K) (hframe 18 args) PS) : HCall Tryz.prog 75 args PS K := by
  have hp : (match Tryz.f75.body with | some c => plansOk pu tb_75 pl_75 c | none => true) = true := by kernel_rfl
  rw [hc] at hp
  refine hcall_of_plans tb_75 pl_75 pu mixed Tryz.func75 hc hp ?_
  rw [Tryz.results75, Tryz.ntmps75]
  exact h
/-- orangery/orangeryref23.Large -/
def pl_76 (n : Nat) : Plan :=
  let _ := n; .done
def tb_76 (n : Nat) : List Row :=
  let _ := n; []
theorem enter_76 {c : Code} {args : List HV} {PS : PL} {K : HV → PL → Prop} (hc : Tryz.f76.body = some c) (h : hvc (hop Tryz.prog) (drawBy Tryz.prog pu pl_76) c (hret Tryz.prog [.tmp 2] K) (hframe 18 args) PS) : HCall Tryz.prog 76 args PS K := by
  have hp : (match Tryz.f76.body with | some c => plansOk pu tb_76 pl_76 c | none => true) = true := by kernel_rfl
  rw [hc] at hp
  refine hcall_of_plans tb_76 pl_76 pu mixed Tryz.func76 hc hp ?_
  rw [Tryz.results76, Tryz.ntmps76]
  exact h
end Go.Proofs.YtocplecibgckoaaGreat
