/-
  Facts of the program, printed by a program of mine: walks.
  No conditions.
-/
import Derived.Test.YtmnhpggplblbgaaGreatFactsT
import Derived.Test.YtmnhpggplblbgaaGreatEngW
namespace Go.Proofs.YtmnhpggplblbgaaGreat
open Go Go.Eng
set_option maxRecDepth 20000
set_option linter.unusedSectionVars false
variable [Toks]
/-- orangery/key.Check -/
def pl_333 (n : Nat) : Plan :=
  match n with
  | 4 => .one 0 <| .one 1 <| .one 2 <| .one 3 <| .one 4 <| .one 5 <| .alt 6 [] (.done) <| .none
  | _ => .done
@[go_sem] theorem plan_333_4 : pl_333 4 = (.one 0 <| .one 1 <| .one 2 <| .one 3 <| .one 4 <| .one 5 <| .alt 6 [] (.done) <| .none) := id rfl
def tb_333 (n : Nat) : List Row :=
  match n with
  | 4 => [⟨32768, 8, 0, 1⟩, ⟨65536, 2, 0, 1⟩, ⟨131072, 65536, 2, 2⟩, ⟨262144, 163840, 5, 1⟩, ⟨524288, 2, 0, 1⟩, ⟨1048576, 524288, 16, 1⟩, ⟨2097152, 1310720, 40, 5⟩]
  | _ => []
theorem enter_333 {c : Code} {args : List HV} {PS : PL} {K : HV → PL → Prop} (hc : Tryz.f333.body = some c) (h : hvc (hop Tryz.prog) (drawBy Tryz.prog pu pl_333) c (hret Tryz.prog [.tmp 2] K) (hframe 25 args) PS) : HCall Tryz.prog 333 args PS K := by
  have hp : (match Tryz.f333.body with | some c => plansOk pu tb_333 pl_333 c | none => true) = true := by kernel_rfl
  rw [hc] at hp
  refine hcall_of_plans tb_333 pl_333 pu mixed Tryz.func333 hc hp ?_
  rw [Tryz.results333, Tryz.ntmps333]
  exact h
/-- orangery/key.Of -/
def pl_294 (n : Nat) : Plan :=
  let _ := n; .done
def tb_294 (n : Nat) : List Row :=
  let _ := n; []
theorem enter_294 {c : Code} {args : List HV} {PS : PL} {K : HV → PL → Prop} (hc : Tryz.f294.body = some c) (h : hvc (hop Tryz.prog) (drawBy Tryz.prog pu pl_294) c (hret Tryz.prog [.cell 2 39, .tmp 3] K) (hframe 17 args) PS) : HCall Tryz.prog 294 args PS K := by
  have hp : (match Tryz.f294.body with | some c => plansOk pu tb_294 pl_294 c | none => true) = true := by kernel_rfl
  rw [hc] at hp
  refine hcall_of_plans tb_294 pl_294 pu mixed Tryz.func294 hc hp ?_
  rw [Tryz.results294, Tryz.ntmps294]
  exact h
/-- orangery/value.Of -/
def pl_295 (n : Nat) : Plan :=
  let _ := n; .done
def tb_295 (n : Nat) : List Row :=
  let _ := n; []
theorem enter_295 {c : Code} {args : List HV} {PS : PL} {K : HV → PL → Prop} (hc : Tryz.f295.body = some c) (h : hvc (hop Tryz.prog) (drawBy Tryz.prog pu pl_295) c (hret Tryz.prog [.cell 2 42, .tmp 3] K) (hframe 11 args) PS) : HCall Tryz.prog 295 args PS K := by
  have hp : (match Tryz.f295.body with | some c => plansOk pu tb_295 pl_295 c | none => true) = true := by kernel_rfl
  rw [hc] at hp
  refine hcall_of_plans tb_295 pl_295 pu mixed Tryz.func295 hc hp ?_
  rw [Tryz.results295, Tryz.ntmps295]
  exact h
/-- orangery/value.of -/
def pl_308 (n : Nat) : Plan :=
  let _ := n; .done
def tb_308 (n : Nat) : List Row :=
  let _ := n; []
theorem enter_308 {c : Code} {args : List HV} {PS : PL} {K : HV → PL → Prop} (hc : Tryz.f308.body = some c) (h : hvc (hop Tryz.prog) (drawBy Tryz.prog pu pl_308) c (hret Tryz.prog [.cell 2 42] K) (hframe 12 args) PS) : HCall Tryz.prog 308 args PS K := by
  have hp : (match Tryz.f308.body with | some c => plansOk pu tb_308 pl_308 c | none => true) = true := by kernel_rfl
  rw [hc] at hp
  refine hcall_of_plans tb_308 pl_308 pu mixed Tryz.func308 hc hp ?_
  rw [Tryz.results308, Tryz.ntmps308]
  exact h
/-- orangery/value.Check -/
def pl_334 (n : Nat) : Plan :=
  match n with
  | 1 => .one 0 <| .one 1 <| .one 2 <| .one 3 <| .one 4 <| .one 5 <| .one 6 <| .one 7 <| .one 8 <| .one 9 <| .one 10 <| .one 11 <| .one 12 <| .one 13 <| .one 14 <| .one 15 <| .one 16 <| .one 17 <| .done
  | _ => .done
@[go_sem] theorem plan_334_1 : pl_334 1 = (.one 0 <| .one 1 <| .one 2 <| .one 3 <| .one 4 <| .one 5 <| .one 6 <| .one 7 <| .one 8 <| .one 9 <| .one 10 <| .one 11 <| .one 12 <| .one 13 <| .one 14 <| .one 15 <| .one 16 <| .one 17 <| .done) := id rfl
def tb_334 (n : Nat) : List Row :=
  match n with
  | 1 => [⟨8, 2, 0, 1⟩, ⟨16, 8, 1, 2⟩, ⟨32, 16, 2, 1⟩, ⟨64, 32, 4, 0⟩, ⟨128, 66, 8, 1⟩, ⟨256, 192, 24, 2⟩, ⟨512, 320, 40, 1⟩, ⟨1024, 576, 72, 0⟩, ⟨2048, 1024, 136, 0⟩, ⟨4096, 2050, 256, 1⟩, ⟨8192, 2050, 256, 1⟩, ⟨16384, 10240, 1280, 2⟩, ⟨32768, 22528, 2816, 1⟩, ⟨65536, 34816, 4352, 2⟩, ⟨131072, 2050, 256, 2⟩, ⟨262144, 198656, 24832, 1⟩, ⟨524288, 264192, 33024, 0⟩, ⟨4, 524288, 131071, 0⟩]
  | _ => []
theorem enter_334 {c : Code} {args : List HV} {PS : PL} {K : HV → PL → Prop} (hc : Tryz.f334.body = some c) (h : hvc (hop Tryz.prog) (drawBy Tryz.prog pu pl_334) c (hret Tryz.prog [.tmp 2] K) (hframe 20 args) PS) : HCall Tryz.prog 334 args PS K := by
  have hp : (match Tryz.f334.body with | some c => plansOk pu tb_334 pl_334 c | none => true) = true := by kernel_rfl
  rw [hc] at hp
  refine hcall_of_plans tb_334 pl_334 pu mixed Tryz.func334 hc hp ?_
  rw [Tryz.results334, Tryz.ntmps334]
  exact h
end Go.Proofs.YtmnhpggplblbgaaGreat
