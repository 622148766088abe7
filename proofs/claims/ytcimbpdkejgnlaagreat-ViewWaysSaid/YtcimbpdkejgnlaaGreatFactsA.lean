/-
  Facts of the program, printed by a program of mine: walks.
  No conditions.
-/
import Derived.Test.YtcimbpdkejgnlaaGreatFactsT
import Derived.Test.YtcimbpdkejgnlaaGreatEngW
namespace Go.Proofs.YtcimbpdkejgnlaaGreat
open Go Go.Eng
set_option maxRecDepth 20000
set_option linter.unusedSectionVars false
variable [Toks]
/-- orangery/orangerylaw00.Place -/
def pl_66 (n : Nat) : Plan :=
  let _ := n; .done
def tb_66 (n : Nat) : List Row :=
  let _ := n; []
theorem enter_66 {c : Code} {args : List HV} {PS : PL} {K : HV → PL → Prop} (hc : Tryz.f66.body = some c) (h : hvc (hop Tryz.prog) (drawBy Tryz.prog pu pl_66) c (hret Tryz.prog [.tmp 4] K) (hframe 15 args) PS) : HCall Tryz.prog 66 args PS K := by
  have hp : (match Tryz.f66.body with | some c => plansOk pu tb_66 pl_66 c | none => true) = true := by kernel_rfl
  rw [hc] at hp
  refine hcall_of_plans tb_66 pl_66 pu mixed Tryz.func66 hc hp ?_
  rw [Tryz.results66, Tryz.ntmps66]
  exact h
/-- slices.Clone[[]int,int] -/
def pl_169 (n : Nat) : Plan :=
  let _ := n; .done
def tb_169 (n : Nat) : List Row :=
  let _ := n; []
theorem enter_169 {c : Code} {args : List HV} {PS : PL} {K : HV → PL → Prop} (hc : Tryz.f169.body = some c) (h : hvc (hop Tryz.prog) (drawBy Tryz.prog pu pl_169) c (hret Tryz.prog [.tmp 2] K) (hframe 8 args) PS) : HCall Tryz.prog 169 args PS K := by
  have hp : (match Tryz.f169.body with | some c => plansOk pu tb_169 pl_169 c | none => true) = true := by kernel_rfl
  rw [hc] at hp
  refine hcall_of_plans tb_169 pl_169 pu mixed Tryz.func169 hc hp ?_
  rw [Tryz.results169, Tryz.ntmps169]
  exact h
/-- slices.Clone[[]orangery/api.Msg,orangery/api.Msg] -/
def pl_170 (n : Nat) : Plan :=
  let _ := n; .done
def tb_170 (n : Nat) : List Row :=
  let _ := n; []
theorem enter_170 {c : Code} {args : List HV} {PS : PL} {K : HV → PL → Prop} (hc : Tryz.f170.body = some c) (h : hvc (hop Tryz.prog) (drawBy Tryz.prog pu pl_170) c (hret Tryz.prog [.tmp 2] K) (hframe 8 args) PS) : HCall Tryz.prog 170 args PS K := by
  have hp : (match Tryz.f170.body with | some c => plansOk pu tb_170 pl_170 c | none => true) = true := by kernel_rfl
  rw [hc] at hp
  refine hcall_of_plans tb_170 pl_170 pu mixed Tryz.func170 hc hp ?_
  rw [Tryz.results170, Tryz.ntmps170]
  exact h
/-- slices.Clone[[]orangery/api.Want,orangery/api.Want] -/
def pl_244 (n : Nat) : Plan :=
  let _ := n; .done
def tb_244 (n : Nat) : List Row :=
  let _ := n; []
theorem enter_244 {c : Code} {args : List HV} {PS : PL} {K : HV → PL → Prop} (hc : Tryz.f244.body = some c) (h : hvc (hop Tryz.prog) (drawBy Tryz.prog pu pl_244) c (hret Tryz.prog [.tmp 2] K) (hframe 8 args) PS) : HCall Tryz.prog 244 args PS K := by
  have hp : (match Tryz.f244.body with | some c => plansOk pu tb_244 pl_244 c | none => true) = true := by kernel_rfl
  rw [hc] at hp
  refine hcall_of_plans tb_244 pl_244 pu mixed Tryz.func244 hc hp ?_
  rw [Tryz.results244, Tryz.ntmps244]
  exact h
/-- slices.Clone[[]orangery/api.Key,orangery/api.Key] -/
def pl_264 (n : Nat) : Plan :=
  let _ := n; .done
def tb_264 (n : Nat) : List Row :=
  let _ := n; []
theorem enter_264 {c : Code} {args : List HV} {PS : PL} {K : HV → PL → Prop} (hc : Tryz.f264.body = some c) (h : hvc (hop Tryz.prog) (drawBy Tryz.prog pu pl_264) c (hret Tryz.prog [.tmp 2] K) (hframe 8 args) PS) : HCall Tryz.prog 264 args PS K := by
  have hp : (match Tryz.f264.body with | some c => plansOk pu tb_264 pl_264 c | none => true) = true := by kernel_rfl
  rw [hc] at hp
  refine hcall_of_plans tb_264 pl_264 pu mixed Tryz.func264 hc hp ?_
  rw [Tryz.results264, Tryz.ntmps264]
  exact h
/-- slices.Clone[[]orangery/api.Event,orangery/api.Event] -/
def pl_278 (n : Nat) : Plan :=
  let _ := n; .done
def tb_278 (n : Nat) : List Row :=
  let _ := n; []
theorem enter_278 {c : Code} {args : List HV} {PS : PL} {K : HV → PL → Prop} (hc : Tryz.f278.body = some c) (h : hvc (hop Tryz.prog) (drawBy Tryz.prog pu pl_278) c (hret Tryz.prog [.tmp 2] K) (hframe 8 args) PS) : HCall Tryz.prog 278 args PS K := by
  have hp : (match Tryz.f278.body with | some c => plansOk pu tb_278 pl_278 c | none => true) = true := by kernel_rfl
  rw [hc] at hp
  refine hcall_of_plans tb_278 pl_278 pu mixed Tryz.func278 hc hp ?_
  rw [Tryz.results278, Tryz.ntmps278]
  exact h
/-- slices.Clone[[]orangery/api.Op,orangery/api.Op] -/
def pl_281 (n : Nat) : Plan :=
  let _ := n; .done
def tb_281 (n : Nat) : List Row :=
  let _ := n; []
theorem enter_281 {c : Code} {args : List HV} {PS : PL} {K : HV → PL → Prop} (hc : Tryz.f281.body = some c) (h : hvc (hop Tryz.prog) (drawBy Tryz.prog pu pl_281) c (hret Tryz.prog [.tmp 2] K) (hframe 8 args) PS) : HCall Tryz.prog 281 args PS K := by
  have hp : (match Tryz.f281.body with | some c => plansOk pu tb_281 pl_281 c | none => true) = true := by kernel_rfl
  rw [hc] at hp
  refine hcall_of_plans tb_281 pl_281 pu mixed Tryz.func281 hc hp ?_
  rw [Tryz.results281, Tryz.ntmps281]
  exact h
/-- bytes.Clone -/
def pl_289 (n : Nat) : Plan :=
  let _ := n; .done
def tb_289 (n : Nat) : List Row :=
  let _ := n; []
theorem enter_289 {c : Code} {args : List HV} {PS : PL} {K : HV → PL → Prop} (hc : Tryz.f289.body = some c) (h : hvc (hop Tryz.prog) (drawBy Tryz.prog pu pl_289) c (hret Tryz.prog [.tmp 2] K) (hframe 8 args) PS) : HCall Tryz.prog 289 args PS K := by
  have hp : (match Tryz.f289.body with | some c => plansOk pu tb_289 pl_289 c | none => true) = true := by kernel_rfl
  rw [hc] at hp
  refine hcall_of_plans tb_289 pl_289 pu mixed Tryz.func289 hc hp ?_
  rw [Tryz.results289, Tryz.ntmps289]
  exact h
/-- slices.Clone[[]orangery/api.Entry,orangery/api.Entry] -/
def pl_299 (n : Nat) : Plan :=
  let _ := n; .done
def tb_299 (n : Nat) : List Row :=
  let _ := n; []
theorem enter_299 {c : Code} {args : List HV} {PS : PL} {K : HV → PL → Prop} (hc : Tryz.f299.body = some c) (h : hvc (hop Tryz.prog) (drawBy Tryz.prog pu pl_299) c (hret Tryz.prog [.tmp 2] K) (hframe 8 args) PS) : HCall Tryz.prog 299 args PS K := by
  have hp : (match Tryz.f299.body with | some c => plansOk pu tb_299 pl_299 c | none => true) = true := by kernel_rfl
  rw [hc] at hp
  refine hcall_of_plans tb_299 pl_299 pu mixed Tryz.func299 hc hp ?_
  rw [Tryz.results299, Tryz.ntmps299]
  exact h
/-- slices.Clone[[]bool,bool] -/
def pl_305 (n : Nat) : Plan :=
  let _ := n; .done
def tb_305 (n : Nat) : List Row :=
  let _ := n; []
theorem enter_305 {c : Code} {args : List HV} {PS : PL} {K : HV → PL → Prop} (hc : Tryz.f305.body = some c) (h : hvc (hop Tryz.prog) (drawBy Tryz.prog pu pl_305) c (hret Tryz.prog [.tmp 2] K) (hframe 8 args) PS) : HCall Tryz.prog 305 args PS K := by
  have hp : (match Tryz.f305.body with | some c => plansOk pu tb_305 pl_305 c | none => true) = true := by kernel_rfl
  rw [hc] at hp
  refine hcall_of_plans tb_305 pl_305 pu mixed Tryz.func305 hc hp ?_
  rw [Tryz.results305, Tryz.ntmps305]
  exact h
/-- strings.Compare -/
def pl_356 (n : Nat) : Plan :=
  let _ := n; .done
def tb_356 (n : Nat) : List Row :=
  let _ := n; []
theorem enter_356 {c : Code} {args : List HV} {PS : PL} {K : HV → PL → Prop} (hc : Tryz.f356.body = some c) (h : hvc (hop Tryz.prog) (drawBy Tryz.prog pu pl_356) c (hret Tryz.prog [.tmp 4] K) (hframe 8 args) PS) : HCall Tryz.prog 356 args PS K := by
  have hp : (match Tryz.f356.body with | some c => plansOk pu tb_356 pl_356 c | none => true) = true := by kernel_rfl
  rw [hc] at hp
  refine hcall_of_plans tb_356 pl_356 pu mixed Tryz.func356 hc hp ?_
  rw [Tryz.results356, Tryz.ntmps356]
  exact h
/-- orangery/crc.Sum -/
def pl_365 (n : Nat) : Plan :=
  let _ := n; .done
def tb_365 (n : Nat) : List Row :=
  let _ := n; []
theorem enter_365 {c : Code} {args : List HV} {PS : PL} {K : HV → PL → Prop} (hc : Tryz.f365.body = some c) (h : hvc (hop Tryz.prog) (drawBy Tryz.prog pu pl_365) c (hret Tryz.prog [.tmp 2] K) (hframe 5 args) PS) : HCall Tryz.prog 365 args PS K := by
  have hp : (match Tryz.f365.body with | some c => plansOk pu tb_365 pl_365 c | none => true) = true := by kernel_rfl
  rw [hc] at hp
  refine hcall_of_plans tb_365 pl_365 pu mixed Tryz.func365 hc hp ?_
  rw [Tryz.results365, Tryz.ntmps365]
  exact h
/-- orangery/crc.More -/
def pl_420 (n : Nat) : Plan :=
  let _ := n; .done
def tb_420 (n : Nat) : List Row :=
  let _ := n; []
theorem enter_420 {c : Code} {args : List HV} {PS : PL} {K : HV → PL → Prop} (hc : Tryz.f420.body = some c) (h : hvc (hop Tryz.prog) (drawBy Tryz.prog pu pl_420) c (hret Tryz.prog [.tmp 4] K) (hframe 30 args) PS) : HCall Tryz.prog 420 args PS K := by
  have hp : (match Tryz.f420.body with | some c => plansOk pu tb_420 pl_420 c | none => true) = true := by kernel_rfl
  rw [hc] at hp
  refine hcall_of_plans tb_420 pl_420 pu mixed Tryz.func420 hc hp ?_
  rw [Tryz.results420, Tryz.ntmps420]
  exact h
/-- orangery/crc.steps -/
def pl_448 (n : Nat) : Plan :=
  let _ := n; .done
def tb_448 (n : Nat) : List Row :=
  let _ := n; []
theorem enter_448 {c : Code} {args : List HV} {PS : PL} {K : HV → PL → Prop} (hc : Tryz.f448.body = some c) (h : hvc (hop Tryz.prog) (drawBy Tryz.prog pu pl_448) c (hret Tryz.prog [.cell 0 483] K) (hframe 26 args) PS) : HCall Tryz.prog 448 args PS K := by
  have hp : (match Tryz.f448.body with | some c => plansOk pu tb_448 pl_448 c | none => true) = true := by kernel_rfl
  rw [hc] at hp
  refine hcall_of_plans tb_448 pl_448 pu mixed Tryz.func448 hc hp ?_
  rw [Tryz.results448, Tryz.ntmps448]
  exact h
end Go.Proofs.YtcimbpdkejgnlaaGreat
