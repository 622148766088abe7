/-
  Facts of the program, printed by a program of mine: walks.
  No conditions.
-/
import Derived.Test.YtmnhpggplblbgaaGreatFactsT
import Derived.Test.YtmnhpggplblbgaaGreatEngW
namespace Go.Proofs.YtmnhpggplblbgaaGreat
open Go Go.Eng
set_option maxRecDepth 20000
set_option linter.unusedSectionVars false
variable [Toks]
/-- orangery/orangerylaw00.Place -/
def pl_38 (n : Nat) : Plan :=
  let _ := n; .done
def tb_38 (n : Nat) : List Row :=
  let _ := n; []
theorem enter_38 {c : Code} {args : List HV} {PS : PL} {K : HV → PL → Prop} (hc : Tryz.f38.body = some c) (h : hvc (hop Tryz.prog) (drawBy Tryz.prog pu pl_38) c (hret Tryz.prog [.tmp 4] K) (hframe 15 args) PS) : HCall Tryz.prog 38 args PS K := by
  have hp : (match Tryz.f38.body with | some c => plansOk pu tb_38 pl_38 c | none => true) = true := by kernel_rfl
  rw [hc] at hp
  refine hcall_of_plans tb_38 pl_38 pu mixed Tryz.func38 hc hp ?_
  rw [Tryz.results38, Tryz.ntmps38]
  exact h
/-- slices.Clone[[]int,int] -/
def pl_125 (n : Nat) : Plan :=
  let _ := n; .done
def tb_125 (n : Nat) : List Row :=
  let _ := n; []
theorem enter_125 {c : Code} {args : List HV} {PS : PL} {K : HV → PL → Prop} (hc : Tryz.f125.body = some c) (h : hvc (hop Tryz.prog) (drawBy Tryz.prog pu pl_125) c (hret Tryz.prog [.tmp 2] K) (hframe 8 args) PS) : HCall Tryz.prog 125 args PS K := by
  have hp : (match Tryz.f125.body with | some c => plansOk pu tb_125 pl_125 c | none => true) = true := by kernel_rfl
  rw [hc] at hp
  refine hcall_of_plans tb_125 pl_125 pu mixed Tryz.func125 hc hp ?_
  rw [Tryz.results125, Tryz.ntmps125]
  exact h
/-- slices.Clone[[]orangery/api.Msg,orangery/api.Msg] -/
def pl_126 (n : Nat) : Plan :=
  let _ := n; .done
def tb_126 (n : Nat) : List Row :=
  let _ := n; []
theorem enter_126 {c : Code} {args : List HV} {PS : PL} {K : HV → PL → Prop} (hc : Tryz.f126.body = some c) (h : hvc (hop Tryz.prog) (drawBy Tryz.prog pu pl_126) c (hret Tryz.prog [.tmp 2] K) (hframe 8 args) PS) : HCall Tryz.prog 126 args PS K := by
  have hp : (match Tryz.f126.body with | some c => plansOk pu tb_126 pl_126 c | none => true) = true := by kernel_rfl
  rw [hc] at hp
  refine hcall_of_plans tb_126 pl_126 pu mixed Tryz.func126 hc hp ?_
  rw [Tryz.results126, Tryz.ntmps126]
  exact h
/-- slices.Clone[[]orangery/api.Event,orangery/api.Event] -/
def pl_141 (n : Nat) : Plan :=
  let _ := n; .done
def tb_141 (n : Nat) : List Row :=
  let _ := n; []
theorem enter_141 {c : Code} {args : List HV} {PS : PL} {K : HV → PL → Prop} (hc : Tryz.f141.body = some c) (h : hvc (hop Tryz.prog) (drawBy Tryz.prog pu pl_141) c (hret Tryz.prog [.tmp 2] K) (hframe 8 args) PS) : HCall Tryz.prog 141 args PS K := by
  have hp : (match Tryz.f141.body with | some c => plansOk pu tb_141 pl_141 c | none => true) = true := by kernel_rfl
  rw [hc] at hp
  refine hcall_of_plans tb_141 pl_141 pu mixed Tryz.func141 hc hp ?_
  rw [Tryz.results141, Tryz.ntmps141]
  exact h
/-- slices.Clone[[]orangery/api.Key,orangery/api.Key] -/
def pl_203 (n : Nat) : Plan :=
  let _ := n; .done
def tb_203 (n : Nat) : List Row :=
  let _ := n; []
theorem enter_203 {c : Code} {args : List HV} {PS : PL} {K : HV → PL → Prop} (hc : Tryz.f203.body = some c) (h : hvc (hop Tryz.prog) (drawBy Tryz.prog pu pl_203) c (hret Tryz.prog [.tmp 2] K) (hframe 8 args) PS) : HCall Tryz.prog 203 args PS K := by
  have hp : (match Tryz.f203.body with | some c => plansOk pu tb_203 pl_203 c | none => true) = true := by kernel_rfl
  rw [hc] at hp
  refine hcall_of_plans tb_203 pl_203 pu mixed Tryz.func203 hc hp ?_
  rw [Tryz.results203, Tryz.ntmps203]
  exact h
/-- slices.Clone[[]orangery/api.Op,orangery/api.Op] -/
def pl_218 (n : Nat) : Plan :=
  let _ := n; .done
def tb_218 (n : Nat) : List Row :=
  let _ := n; []
theorem enter_218 {c : Code} {args : List HV} {PS : PL} {K : HV → PL → Prop} (hc : Tryz.f218.body = some c) (h : hvc (hop Tryz.prog) (drawBy Tryz.prog pu pl_218) c (hret Tryz.prog [.tmp 2] K) (hframe 8 args) PS) : HCall Tryz.prog 218 args PS K := by
  have hp : (match Tryz.f218.body with | some c => plansOk pu tb_218 pl_218 c | none => true) = true := by kernel_rfl
  rw [hc] at hp
  refine hcall_of_plans tb_218 pl_218 pu mixed Tryz.func218 hc hp ?_
  rw [Tryz.results218, Tryz.ntmps218]
  exact h
/-- bytes.Clone -/
def pl_235 (n : Nat) : Plan :=
  let _ := n; .done
def tb_235 (n : Nat) : List Row :=
  let _ := n; []
theorem enter_235 {c : Code} {args : List HV} {PS : PL} {K : HV → PL → Prop} (hc : Tryz.f235.body = some c) (h : hvc (hop Tryz.prog) (drawBy Tryz.prog pu pl_235) c (hret Tryz.prog [.tmp 2] K) (hframe 8 args) PS) : HCall Tryz.prog 235 args PS K := by
  have hp : (match Tryz.f235.body with | some c => plansOk pu tb_235 pl_235 c | none => true) = true := by kernel_rfl
  rw [hc] at hp
  refine hcall_of_plans tb_235 pl_235 pu mixed Tryz.func235 hc hp ?_
  rw [Tryz.results235, Tryz.ntmps235]
  exact h
/-- slices.Clone[[]orangery/api.Entry,orangery/api.Entry] -/
def pl_245 (n : Nat) : Plan :=
  let _ := n; .done
def tb_245 (n : Nat) : List Row :=
  let _ := n; []
theorem enter_245 {c : Code} {args : List HV} {PS : PL} {K : HV → PL → Prop} (hc : Tryz.f245.body = some c) (h : hvc (hop Tryz.prog) (drawBy Tryz.prog pu pl_245) c (hret Tryz.prog [.tmp 2] K) (hframe 8 args) PS) : HCall Tryz.prog 245 args PS K := by
  have hp : (match Tryz.f245.body with | some c => plansOk pu tb_245 pl_245 c | none => true) = true := by kernel_rfl
  rw [hc] at hp
  refine hcall_of_plans tb_245 pl_245 pu mixed Tryz.func245 hc hp ?_
  rw [Tryz.results245, Tryz.ntmps245]
  exact h
/-- slices.Clone[[]orangery/api.Want,orangery/api.Want] -/
def pl_267 (n : Nat) : Plan :=
  let _ := n; .done
def tb_267 (n : Nat) : List Row :=
  let _ := n; []
theorem enter_267 {c : Code} {args : List HV} {PS : PL} {K : HV → PL → Prop} (hc : Tryz.f267.body = some c) (h : hvc (hop Tryz.prog) (drawBy Tryz.prog pu pl_267) c (hret Tryz.prog [.tmp 2] K) (hframe 8 args) PS) : HCall Tryz.prog 267 args PS K := by
  have hp : (match Tryz.f267.body with | some c => plansOk pu tb_267 pl_267 c | none => true) = true := by kernel_rfl
  rw [hc] at hp
  refine hcall_of_plans tb_267 pl_267 pu mixed Tryz.func267 hc hp ?_
  rw [Tryz.results267, Tryz.ntmps267]
  exact h
/-- strings.Compare -/
def pl_285 (n : Nat) : Plan :=
  let _ := n; .done
def tb_285 (n : Nat) : List Row :=
  let _ := n; []
theorem enter_285 {c : Code} {args : List HV} {PS : PL} {K : HV → PL → Prop} (hc : Tryz.f285.body = some c) (h : hvc (hop Tryz.prog) (drawBy Tryz.prog pu pl_285) c (hret Tryz.prog [.tmp 4] K) (hframe 8 args) PS) : HCall Tryz.prog 285 args PS K := by
  have hp : (match Tryz.f285.body with | some c => plansOk pu tb_285 pl_285 c | none => true) = true := by kernel_rfl
  rw [hc] at hp
  refine hcall_of_plans tb_285 pl_285 pu mixed Tryz.func285 hc hp ?_
  rw [Tryz.results285, Tryz.ntmps285]
  exact h
/-- orangery/crc.Sum -/
def pl_301 (n : Nat) : Plan :=
  let _ := n; .done
def tb_301 (n : Nat) : List Row :=
  let _ := n; []
theorem enter_301 {c : Code} {args : List HV} {PS : PL} {K : HV → PL → Prop} (hc : Tryz.f301.body = some c) (h : hvc (hop Tryz.prog) (drawBy Tryz.prog pu pl_301) c (hret Tryz.prog [.tmp 2] K) (hframe 5 args) PS) : HCall Tryz.prog 301 args PS K := by
  have hp : (match Tryz.f301.body with | some c => plansOk pu tb_301 pl_301 c | none => true) = true := by kernel_rfl
  rw [hc] at hp
  refine hcall_of_plans tb_301 pl_301 pu mixed Tryz.func301 hc hp ?_
  rw [Tryz.results301, Tryz.ntmps301]
  exact h
/-- slices.Clone[[]bool,bool] -/
def pl_329 (n : Nat) : Plan :=
  let _ := n; .done
def tb_329 (n : Nat) : List Row :=
  let _ := n; []
theorem enter_329 {c : Code} {args : List HV} {PS : PL} {K : HV → PL → Prop} (hc : Tryz.f329.body = some c) (h : hvc (hop Tryz.prog) (drawBy Tryz.prog pu pl_329) c (hret Tryz.prog [.tmp 2] K) (hframe 8 args) PS) : HCall Tryz.prog 329 args PS K := by
  have hp : (match Tryz.f329.body with | some c => plansOk pu tb_329 pl_329 c | none => true) = true := by kernel_rfl
  rw [hc] at hp
  refine hcall_of_plans tb_329 pl_329 pu mixed Tryz.func329 hc hp ?_
  rw [Tryz.results329, Tryz.ntmps329]
  exact h
/-- orangery/crc.More -/
def pl_343 (n : Nat) : Plan :=
  let _ := n; .done
def tb_343 (n : Nat) : List Row :=
  let _ := n; []
theorem enter_343 {c : Code} {args : List HV} {PS : PL} {K : HV → PL → Prop} (hc : Tryz.f343.body = some c) (h : hvc (hop Tryz.prog) (drawBy Tryz.prog pu pl_343) c (hret Tryz.prog [.tmp 4] K) (hframe 30 args) PS) : HCall Tryz.prog 343 args PS K := by
  have hp : (match Tryz.f343.body with | some c => plansOk pu tb_343 pl_343 c | none => true) = true := by kernel_rfl
  rw [hc] at hp
  refine hcall_of_plans tb_343 pl_343 pu mixed Tryz.func343 hc hp ?_
  rw [Tryz.results343, Tryz.ntmps343]
  exact h
/-- orangery/crc.steps -/
def pl_359 (n : Nat) : Plan :=
  let _ := n; .done
def tb_359 (n : Nat) : List Row :=
  let _ := n; []
theorem enter_359 {c : Code} {args : List HV} {PS : PL} {K : HV → PL → Prop} (hc : Tryz.f359.body = some c) (h : hvc (hop Tryz.prog) (drawBy Tryz.prog pu pl_359) c (hret Tryz.prog [.cell 0 417] K) (hframe 26 args) PS) : HCall Tryz.prog 359 args PS K := by
  have hp : (match Tryz.f359.body with | some c => plansOk pu tb_359 pl_359 c | none => true) = true := by kernel_rfl
  rw [hc] at hp
  refine hcall_of_plans tb_359 pl_359 pu mixed Tryz.func359 hc hp ?_
  rw [Tryz.results359, Tryz.ntmps359]
  exact h
end Go.Proofs.YtmnhpggplblbgaaGreat
