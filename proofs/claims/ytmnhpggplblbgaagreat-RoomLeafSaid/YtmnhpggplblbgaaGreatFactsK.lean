/-
  Facts of the program, printed by a program of mine: walks.
  No conditions.
-/
import Derived.Test.YtmnhpggplblbgaaGreatFactsT
import Derived.Test.YtmnhpggplblbgaaGreatEngW
namespace Go.Proofs.YtmnhpggplblbgaaGreat
open Go Go.Eng
set_option maxRecDepth 20000
set_option linter.unusedSectionVars false
variable [Toks]
/-- orangery/key.Check -/
def pl_333 (n : Nat) : Plan :=
  match n with
  | 4 => .one 0 <| .one 1 <| .one 2 <| .one 3 <| .one 4 <| .one 5 <| .alt 6 [] (.done) <| .none
  | _ => .done
@[go_sem] theorem plan_333_4 : pl_333 4 = (.one 0 <| .one 1 <| .one 2 <| .one 3 <| .one 4 <| .one 5 <| .alt 6 [] (.done) <| .none) := id rfl
def tb_333 (n : Nat) : List Row :=
  match n with
  | 4 => [⟨32768, 8, 0, 1⟩, ⟨65536, 2, 0, 1⟩, ⟨131072, 65536, 2, 2⟩, ⟨262144, 163840, 5, 1⟩, ⟨524288, 2, 0, 1⟩, ⟨1048576, 524288, 16, 1⟩, ⟨2097152, 1310720, 40, 5⟩]
  | _ => []
theorem enter_333 {c : Code} {args : List HV} {PS : PL} {K : HV → PL → Prop} (hc : Tryz.f333.body = some c) (h : hvc (hop Tryz.prog) (drawBy Tryz.prog pu pl_333) c (hret Tryz.prog [.tmp 2] K) (hframe 25 args) PS) : HCall Tryz.prog 333 args PS K := by
  have hp : (match Tryz.f333.body with | some c => plansOk pu tb_333 pl_333 c | none => true) = true := by kernel_rfl
  rw [hc] at hp
  refine hcall_of_plans tb_333 pl_333 pu mixed Tryz.func333 hc hp ?_
  rw [Tryz.results333, Tryz.ntmps333]
  exact h
/-- orangery/key.Text -/
def pl_286 (n : Nat) : Plan :=
  let _ := n; .done
def tb_286 (n : Nat) : List Row :=
  let _ := n; []
theorem enter_286 {c : Code} {args : List HV} {PS : PL} {K : HV → PL → Prop} (hc : Tryz.f286.body = some c) (h : hvc (hop Tryz.prog) (drawBy Tryz.prog pu pl_286) c (hret Tryz.prog [.tmp 2] K) (hframe 11 args) PS) : HCall Tryz.prog 286 args PS K := by
  have hp : (match Tryz.f286.body with | some c => plansOk pu tb_286 pl_286 c | none => true) = true := by kernel_rfl
  rw [hc] at hp
  refine hcall_of_plans tb_286 pl_286 pu mixed Tryz.func286 hc hp ?_
  rw [Tryz.results286, Tryz.ntmps286]
  exact h
/-- orangery/key.Compare -/
def pl_204 (n : Nat) : Plan :=
  match n with
  | 1 => .one 0 <| .one 1 <| .one 2 <| .one 3 <| .one 4 <| .one 5 <| .done
  | _ => .done
@[go_sem] theorem plan_204_1 : pl_204 1 = (.one 0 <| .one 1 <| .one 2 <| .one 3 <| .one 4 <| .one 5 <| .done) := id rfl
def tb_204 (n : Nat) : List Row :=
  match n with
  | 1 => [⟨32, 4, 0, 2⟩, ⟨64, 32, 1, 0⟩, ⟨128, 8, 0, 2⟩, ⟨256, 128, 6, 0⟩, ⟨512, 320, 10, 0⟩, ⟨16, 512, 31, 0⟩]
  | _ => []
theorem enter_204 {c : Code} {args : List HV} {PS : PL} {K : HV → PL → Prop} (hc : Tryz.f204.body = some c) (h : hvc (hop Tryz.prog) (drawBy Tryz.prog pu pl_204) c (hret Tryz.prog [.tmp 4] K) (hframe 10 args) PS) : HCall Tryz.prog 204 args PS K := by
  have hp : (match Tryz.f204.body with | some c => plansOk pu tb_204 pl_204 c | none => true) = true := by kernel_rfl
  rw [hc] at hp
  refine hcall_of_plans tb_204 pl_204 pu mixed Tryz.func204 hc hp ?_
  rw [Tryz.results204, Tryz.ntmps204]
  exact h
end Go.Proofs.YtmnhpggplblbgaaGreat
