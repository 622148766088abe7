/-
  Facts of the program, printed by a program of mine: walks.
  No conditions.
-/
import Derived.Test.YthmjdhonafnabaaGreatFactsT
import Derived.Test.YthmjdhonafnabaaGreatEngW
namespace Go.Proofs.YthmjdhonafnabaaGreat
open Go Go.Eng
set_option maxRecDepth 20000
/-- orangery/orangerylaw00.Place -/
def pl_16 (n : Nat) : Plan :=
  let _ := n; .done
def tb_16 (n : Nat) : List Row :=
  let _ := n; []
theorem enter_16 {c : Code} {args : List HV} {PS : PL} {K : HV → PL → Prop} (hc : Tryz.f16.body = some c) (h : hvc (hop Tryz.prog) (drawBy Tryz.prog pu pl_16) c (hret Tryz.prog [.tmp 4] K) (hframe 15 args) PS) : HCall Tryz.prog 16 args PS K := by
  have hp : (match Tryz.f16.body with | some c => plansOk pu tb_16 pl_16 c | none => true) = true := by kernel_rfl
  rw [hc] at hp
  refine hcall_of_plans tb_16 pl_16 pu mixed Tryz.func16 hc hp ?_
  rw [Tryz.results16, Tryz.ntmps16]
  exact h
/-- slices.Clone[[]orangery/api.Want,orangery/api.Want] -/
def pl_115 (n : Nat) : Plan :=
  let _ := n; .done
def tb_115 (n : Nat) : List Row :=
  let _ := n; []
theorem enter_115 {c : Code} {args : List HV} {PS : PL} {K : HV → PL → Prop} (hc : Tryz.f115.body = some c) (h : hvc (hop Tryz.prog) (drawBy Tryz.prog pu pl_115) c (hret Tryz.prog [.tmp 2] K) (hframe 8 args) PS) : HCall Tryz.prog 115 args PS K := by
  have hp : (match Tryz.f115.body with | some c => plansOk pu tb_115 pl_115 c | none => true) = true := by kernel_rfl
  rw [hc] at hp
  refine hcall_of_plans tb_115 pl_115 pu mixed Tryz.func115 hc hp ?_
  rw [Tryz.results115, Tryz.ntmps115]
  exact h
/-- slices.Clone[[]orangery/api.Entry,orangery/api.Entry] -/
def pl_167 (n : Nat) : Plan :=
  let _ := n; .done
def tb_167 (n : Nat) : List Row :=
  let _ := n; []
theorem enter_167 {c : Code} {args : List HV} {PS : PL} {K : HV → PL → Prop} (hc : Tryz.f167.body = some c) (h : hvc (hop Tryz.prog) (drawBy Tryz.prog pu pl_167) c (hret Tryz.prog [.tmp 2] K) (hframe 8 args) PS) : HCall Tryz.prog 167 args PS K := by
  have hp : (match Tryz.f167.body with | some c => plansOk pu tb_167 pl_167 c | none => true) = true := by kernel_rfl
  rw [hc] at hp
  refine hcall_of_plans tb_167 pl_167 pu mixed Tryz.func167 hc hp ?_
  rw [Tryz.results167, Tryz.ntmps167]
  exact h
/-- slices.Clone[[]int,int] -/
def pl_168 (n : Nat) : Plan :=
  let _ := n; .done
def tb_168 (n : Nat) : List Row :=
  let _ := n; []
theorem enter_168 {c : Code} {args : List HV} {PS : PL} {K : HV → PL → Prop} (hc : Tryz.f168.body = some c) (h : hvc (hop Tryz.prog) (drawBy Tryz.prog pu pl_168) c (hret Tryz.prog [.tmp 2] K) (hframe 8 args) PS) : HCall Tryz.prog 168 args PS K := by
  have hp : (match Tryz.f168.body with | some c => plansOk pu tb_168 pl_168 c | none => true) = true := by kernel_rfl
  rw [hc] at hp
  refine hcall_of_plans tb_168 pl_168 pu mixed Tryz.func168 hc hp ?_
  rw [Tryz.results168, Tryz.ntmps168]
  exact h
/-- slices.Clone[[]orangery/api.Key,orangery/api.Key] -/
def pl_169 (n : Nat) : Plan :=
  let _ := n; .done
def tb_169 (n : Nat) : List Row :=
  let _ := n; []
theorem enter_169 {c : Code} {args : List HV} {PS : PL} {K : HV → PL → Prop} (hc : Tryz.f169.body = some c) (h : hvc (hop Tryz.prog) (drawBy Tryz.prog pu pl_169) c (hret Tryz.prog [.tmp 2] K) (hframe 8 args) PS) : HCall Tryz.prog 169 args PS K := by
  have hp : (match Tryz.f169.body with | some c => plansOk pu tb_169 pl_169 c | none => true) = true := by kernel_rfl
  rw [hc] at hp
  refine hcall_of_plans tb_169 pl_169 pu mixed Tryz.func169 hc hp ?_
  rw [Tryz.results169, Tryz.ntmps169]
  exact h
/-- slices.Clone[[]orangery/api.Msg,orangery/api.Msg] -/
def pl_170 (n : Nat) : Plan :=
  let _ := n; .done
def tb_170 (n : Nat) : List Row :=
  let _ := n; []
theorem enter_170 {c : Code} {args : List HV} {PS : PL} {K : HV → PL → Prop} (hc : Tryz.f170.body = some c) (h : hvc (hop Tryz.prog) (drawBy Tryz.prog pu pl_170) c (hret Tryz.prog [.tmp 2] K) (hframe 8 args) PS) : HCall Tryz.prog 170 args PS K := by
  have hp : (match Tryz.f170.body with | some c => plansOk pu tb_170 pl_170 c | none => true) = true := by kernel_rfl
  rw [hc] at hp
  refine hcall_of_plans tb_170 pl_170 pu mixed Tryz.func170 hc hp ?_
  rw [Tryz.results170, Tryz.ntmps170]
  exact h
/-- bytes.Clone -/
def pl_175 (n : Nat) : Plan :=
  let _ := n; .done
def tb_175 (n : Nat) : List Row :=
  let _ := n; []
theorem enter_175 {c : Code} {args : List HV} {PS : PL} {K : HV → PL → Prop} (hc : Tryz.f175.body = some c) (h : hvc (hop Tryz.prog) (drawBy Tryz.prog pu pl_175) c (hret Tryz.prog [.tmp 2] K) (hframe 8 args) PS) : HCall Tryz.prog 175 args PS K := by
  have hp : (match Tryz.f175.body with | some c => plansOk pu tb_175 pl_175 c | none => true) = true := by kernel_rfl
  rw [hc] at hp
  refine hcall_of_plans tb_175 pl_175 pu mixed Tryz.func175 hc hp ?_
  rw [Tryz.results175, Tryz.ntmps175]
  exact h
/-- slices.Clone[[]bool,bool] -/
def pl_195 (n : Nat) : Plan :=
  let _ := n; .done
def tb_195 (n : Nat) : List Row :=
  let _ := n; []
theorem enter_195 {c : Code} {args : List HV} {PS : PL} {K : HV → PL → Prop} (hc : Tryz.f195.body = some c) (h : hvc (hop Tryz.prog) (drawBy Tryz.prog pu pl_195) c (hret Tryz.prog [.tmp 2] K) (hframe 8 args) PS) : HCall Tryz.prog 195 args PS K := by
  have hp : (match Tryz.f195.body with | some c => plansOk pu tb_195 pl_195 c | none => true) = true := by kernel_rfl
  rw [hc] at hp
  refine hcall_of_plans tb_195 pl_195 pu mixed Tryz.func195 hc hp ?_
  rw [Tryz.results195, Tryz.ntmps195]
  exact h
/-- orangery/crc.Sum -/
def pl_213 (n : Nat) : Plan :=
  let _ := n; .done
def tb_213 (n : Nat) : List Row :=
  let _ := n; []
theorem enter_213 {c : Code} {args : List HV} {PS : PL} {K : HV → PL → Prop} (hc : Tryz.f213.body = some c) (h : hvc (hop Tryz.prog) (drawBy Tryz.prog pu pl_213) c (hret Tryz.prog [.tmp 2] K) (hframe 5 args) PS) : HCall Tryz.prog 213 args PS K := by
  have hp : (match Tryz.f213.body with | some c => plansOk pu tb_213 pl_213 c | none => true) = true := by kernel_rfl
  rw [hc] at hp
  refine hcall_of_plans tb_213 pl_213 pu mixed Tryz.func213 hc hp ?_
  rw [Tryz.results213, Tryz.ntmps213]
  exact h
/-- orangery/crc.More -/
def pl_235 (n : Nat) : Plan :=
  let _ := n; .done
def tb_235 (n : Nat) : List Row :=
  let _ := n; []
theorem enter_235 {c : Code} {args : List HV} {PS : PL} {K : HV → PL → Prop} (hc : Tryz.f235.body = some c) (h : hvc (hop Tryz.prog) (drawBy Tryz.prog pu pl_235) c (hret Tryz.prog [.tmp 4] K) (hframe 30 args) PS) : HCall Tryz.prog 235 args PS K := by
  have hp : (match Tryz.f235.body with | some c => plansOk pu tb_235 pl_235 c | none => true) = true := by kernel_rfl
  rw [hc] at hp
  refine hcall_of_plans tb_235 pl_235 pu mixed Tryz.func235 hc hp ?_
  rw [Tryz.results235, Tryz.ntmps235]
  exact h
/-- orangery/crc.steps -/
def pl_251 (n : Nat) : Plan :=
  let _ := n; .done
def tb_251 (n : Nat) : List Row :=
  let _ := n; []
theorem enter_251 {c : Code} {args : List HV} {PS : PL} {K : HV → PL → Prop} (hc : Tryz.f251.body = some c) (h : hvc (hop Tryz.prog) (drawBy Tryz.prog pu pl_251) c (hret Tryz.prog [.cell 0 282] K) (hframe 26 args) PS) : HCall Tryz.prog 251 args PS K := by
  have hp : (match Tryz.f251.body with | some c => plansOk pu tb_251 pl_251 c | none => true) = true := by kernel_rfl
  rw [hc] at hp
  refine hcall_of_plans tb_251 pl_251 pu mixed Tryz.func251 hc hp ?_
  rw [Tryz.results251, Tryz.ntmps251]
  exact h
/-- strings.Compare -/
def pl_281 (n : Nat) : Plan :=
  let _ := n; .done
def tb_281 (n : Nat) : List Row :=
  let _ := n; []
theorem enter_281 {c : Code} {args : List HV} {PS : PL} {K : HV → PL → Prop} (hc : Tryz.f281.body = some c) (h : hvc (hop Tryz.prog) (drawBy Tryz.prog pu pl_281) c (hret Tryz.prog [.tmp 4] K) (hframe 8 args) PS) : HCall Tryz.prog 281 args PS K := by
  have hp : (match Tryz.f281.body with | some c => plansOk pu tb_281 pl_281 c | none => true) = true := by kernel_rfl
  rw [hc] at hp
  refine hcall_of_plans tb_281 pl_281 pu mixed Tryz.func281 hc hp ?_
  rw [Tryz.results281, Tryz.ntmps281]
  exact h
end Go.Proofs.YthmjdhonafnabaaGreat
