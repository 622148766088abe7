/-
  Facts of the program, printed by a program of mine: walks.
  No conditions.
-/
import Derived.Test.YtocplecibgckoaaGreatFactsT
import Derived.Test.YtocplecibgckoaaGreatEngW
namespace Go.Proofs.YtocplecibgckoaaGreat
open Go Go.Eng
set_option maxRecDepth 20000
/-- orangery/crc.steps -/
def pl_265 (n : Nat) : Plan :=
  let _ := n; .done
def tb_265 (n : Nat) : List Row :=
  let _ := n; []
theorem enter_265 {c : Code} {args : List HV} {PS : PL} {K : HV → PL → Prop} (hc : Tryz.f265.body = some c) (h : hvc (hop Tryz.prog) (drawBy Tryz.prog pu pl_265) c (hret Tryz.prog [.cell 0 336] K) (hframe 26 args) PS) : HCall Tryz.prog 265 args PS K := by
  have hp : (match Tryz.f265.body with | some c => plansOk pu tb_265 pl_265 c | none => true) = true := by kernel_rfl
  rw [hc] at hp
  refine hcall_of_plans tb_265 pl_265 pu mixed Tryz.func265 hc hp ?_
  rw [Tryz.results265, Tryz.ntmps265]
  exact h
/-- orangery/crc.More -/
def pl_236 (n : Nat) : Plan :=
  let _ := n; .done
def tb_236 (n : Nat) : List Row :=
  let _ := n; []
theorem enter_236 {c : Code} {args : List HV} {PS : PL} {K : HV → PL → Prop} (hc : Tryz.f236.body = some c) (h : hvc (hop Tryz.prog) (drawBy Tryz.prog pu pl_236) c (hret Tryz.prog [.tmp 4] K) (hframe 30 args) PS) : HCall Tryz.prog 236 args PS K := by
  have hp : (match Tryz.f236.body with | some c => plansOk pu tb_236 pl_236 c | none => true) = true := by kernel_rfl
  rw [hc] at hp
  refine hcall_of_plans tb_236 pl_236 pu mixed Tryz.func236 hc hp ?_
  rw [Tryz.results236, Tryz.ntmps236]
  exact h
/-- orangery/crc.Sum -/
def pl_207 (n : Nat) : Plan :=
  let _ := n; .done
def tb_207 (n : Nat) : List Row :=
  let _ := n; []
theorem enter_207 {c : Code} {args : List HV} {PS : PL} {K : HV → PL → Prop} (hc : Tryz.f207.body = some c) (h : hvc (hop Tryz.prog) (drawBy Tryz.prog pu pl_207) c (hret Tryz.prog [.tmp 2] K) (hframe 5 args) PS) : HCall Tryz.prog 207 args PS K := by
  have hp : (match Tryz.f207.body with | some c => plansOk pu tb_207 pl_207 c | none => true) = true := by kernel_rfl
  rw [hc] at hp
  refine hcall_of_plans tb_207 pl_207 pu mixed Tryz.func207 hc hp ?_
  rw [Tryz.results207, Tryz.ntmps207]
  exact h
/-- orangery/orangerylaw00.Place -/
def pl_16 (n : Nat) : Plan :=
  let _ := n; .done
def tb_16 (n : Nat) : List Row :=
  let _ := n; []
theorem enter_16 {c : Code} {args : List HV} {PS : PL} {K : HV → PL → Prop} (hc : Tryz.f16.body = some c) (h : hvc (hop Tryz.prog) (drawBy Tryz.prog pu pl_16) c (hret Tryz.prog [.tmp 4] K) (hframe 15 args) PS) : HCall Tryz.prog 16 args PS K := by
  have hp : (match Tryz.f16.body with | some c => plansOk pu tb_16 pl_16 c | none => true) = true := by kernel_rfl
  rw [hc] at hp
  refine hcall_of_plans tb_16 pl_16 pu mixed Tryz.func16 hc hp ?_
  rw [Tryz.results16, Tryz.ntmps16]
  exact h
/-- orangery/audit.Bound -/
def pl_30 (n : Nat) : Plan :=
  let _ := n; .done
def tb_30 (n : Nat) : List Row :=
  let _ := n; []
theorem enter_30 {c : Code} {args : List HV} {PS : PL} {K : HV → PL → Prop} (hc : Tryz.f30.body = some c) (h : hvc (hop Tryz.prog) (drawBy Tryz.prog pu pl_30) c (hret Tryz.prog [.tmp 6] K) (hframe 31 args) PS) : HCall Tryz.prog 30 args PS K := by
  have hp : (match Tryz.f30.body with | some c => plansOk pu tb_30 pl_30 c | none => true) = true := by kernel_rfl
  rw [hc] at hp
  refine hcall_of_plans tb_30 pl_30 pu mixed Tryz.func30 hc hp ?_
  rw [Tryz.results30, Tryz.ntmps30]
  exact h
/-- orangery/audit.Enough -/
def pl_28 (n : Nat) : Plan :=
  let _ := n; .done
def tb_28 (n : Nat) : List Row :=
  let _ := n; []
theorem enter_28 {c : Code} {args : List HV} {PS : PL} {K : HV → PL → Prop} (hc : Tryz.f28.body = some c) (h : hvc (hop Tryz.prog) (drawBy Tryz.prog pu pl_28) c (hret Tryz.prog [.tmp 4] K) (hframe 16 args) PS) : HCall Tryz.prog 28 args PS K := by
  have hp : (match Tryz.f28.body with | some c => plansOk pu tb_28 pl_28 c | none => true) = true := by kernel_rfl
  rw [hc] at hp
  refine hcall_of_plans tb_28 pl_28 pu mixed Tryz.func28 hc hp ?_
  rw [Tryz.results28, Tryz.ntmps28]
  exact h
/-- orangery/audit.Size -/
def pl_26 (n : Nat) : Plan :=
  let _ := n; .done
def tb_26 (n : Nat) : List Row :=
  let _ := n; []
theorem enter_26 {c : Code} {args : List HV} {PS : PL} {K : HV → PL → Prop} (hc : Tryz.f26.body = some c) (h : hvc (hop Tryz.prog) (drawBy Tryz.prog pu pl_26) c (hret Tryz.prog [.tmp 2] K) (hframe 49 args) PS) : HCall Tryz.prog 26 args PS K := by
  have hp : (match Tryz.f26.body with | some c => plansOk pu tb_26 pl_26 c | none => true) = true := by kernel_rfl
  rw [hc] at hp
  refine hcall_of_plans tb_26 pl_26 pu mixed Tryz.func26 hc hp ?_
  rw [Tryz.results26, Tryz.ntmps26]
  exact h
/-- orangery/orangeryref27.Bound -/
def pl_31 (n : Nat) : Plan :=
  let _ := n; .done
def tb_31 (n : Nat) : List Row :=
  let _ := n; []
theorem enter_31 {c : Code} {args : List HV} {PS : PL} {K : HV → PL → Prop} (hc : Tryz.f31.body = some c) (h : hvc (hop Tryz.prog) (drawBy Tryz.prog pu pl_31) c (hret Tryz.prog [.tmp 6] K) (hframe 40 args) PS) : HCall Tryz.prog 31 args PS K := by
  have hp : (match Tryz.f31.body with | some c => plansOk pu tb_31 pl_31 c | none => true) = true := by kernel_rfl
  rw [hc] at hp
  refine hcall_of_plans tb_31 pl_31 pu mixed Tryz.func31 hc hp ?_
  rw [Tryz.results31, Tryz.ntmps31]
  exact h
/-- orangery/orangeryref27.Size -/
def pl_27 (n : Nat) : Plan :=
  let _ := n; .done
def tb_27 (n : Nat) : List Row :=
  let _ := n; []
theorem enter_27 {c : Code} {args : List HV} {PS : PL} {K : HV → PL → Prop} (hc : Tryz.f27.body = some c) (h : hvc (hop Tryz.prog) (drawBy Tryz.prog pu pl_27) c (hret Tryz.prog [.tmp 2] K) (hframe 56 args) PS) : HCall Tryz.prog 27 args PS K := by
  have hp : (match Tryz.f27.body with | some c => plansOk pu tb_27 pl_27 c | none => true) = true := by kernel_rfl
  rw [hc] at hp
  refine hcall_of_plans tb_27 pl_27 pu mixed Tryz.func27 hc hp ?_
  rw [Tryz.results27, Tryz.ntmps27]
  exact h
/-- orangery/orangeryref27.Enough -/
def pl_29 (n : Nat) : Plan :=
  let _ := n; .done
def tb_29 (n : Nat) : List Row :=
  let _ := n; []
theorem enter_29 {c : Code} {args : List HV} {PS : PL} {K : HV → PL → Prop} (hc : Tryz.f29.body = some c) (h : hvc (hop Tryz.prog) (drawBy Tryz.prog pu pl_29) c (hret Tryz.prog [.tmp 4] K) (hframe 11 args) PS) : HCall Tryz.prog 29 args PS K := by
  have hp : (match Tryz.f29.body with | some c => plansOk pu tb_29 pl_29 c | none => true) = true := by kernel_rfl
  rw [hc] at hp
  refine hcall_of_plans tb_29 pl_29 pu mixed Tryz.func29 hc hp ?_
  rw [Tryz.results29, Tryz.ntmps29]
  exact h
/-- orangery/orangerylaw27.AuditBounds -/
def pl_6 (n : Nat) : Plan :=
  let _ := n; .done
def tb_6 (n : Nat) : List Row :=
  let _ := n; []
theorem enter_6 {c : Code} {args : List HV} {PS : PL} {K : HV → PL → Prop} (hc : Tryz.f6.body = some c) (h : hvc (hop Tryz.prog) (drawBy Tryz.prog pu pl_6) c (hret Tryz.prog [.tmp 6] K) (hframe 75 args) PS) : HCall Tryz.prog 6 args PS K := by
  have hp : (match Tryz.f6.body with | some c => plansOk pu tb_6 pl_6 c | none => true) = true := by kernel_rfl
  rw [hc] at hp
  refine hcall_of_plans tb_6 pl_6 pu mixed Tryz.func6 hc hp ?_
  rw [Tryz.results6, Tryz.ntmps6]
  exact h
/-- orangery/orangerylaw27.AuditSizes -/
def pl_5 (n : Nat) : Plan :=
  let _ := n; .done
def tb_5 (n : Nat) : List Row :=
  let _ := n; []
theorem enter_5 {c : Code} {args : List HV} {PS : PL} {K : HV → PL → Prop} (hc : Tryz.f5.body = some c) (h : hvc (hop Tryz.prog) (drawBy Tryz.prog pu pl_5) c (hret Tryz.prog [.tmp 10] K) (hframe 71 args) PS) : HCall Tryz.prog 5 args PS K := by
  have hp : (match Tryz.f5.body with | some c => plansOk pu tb_5 pl_5 c | none => true) = true := by kernel_rfl
  rw [hc] at hp
  refine hcall_of_plans tb_5 pl_5 pu mixed Tryz.func5 hc hp ?_
  rw [Tryz.results5, Tryz.ntmps5]
  exact h
/-- orangery/orangerylaw27.few -/
def pl_24 (n : Nat) : Plan :=
  let _ := n; .done
def tb_24 (n : Nat) : List Row :=
  let _ := n; []
theorem enter_24 {c : Code} {args : List HV} {PS : PL} {K : HV → PL → Prop} (hc : Tryz.f24.body = some c) (h : hvc (hop Tryz.prog) (drawBy Tryz.prog pu pl_24) c (hret Tryz.prog [.tmp 2] K) (hframe 19 args) PS) : HCall Tryz.prog 24 args PS K := by
  have hp : (match Tryz.f24.body with | some c => plansOk pu tb_24 pl_24 c | none => true) = true := by kernel_rfl
  rw [hc] at hp
  refine hcall_of_plans tb_24 pl_24 pu mixed Tryz.func24 hc hp ?_
  rw [Tryz.results24, Tryz.ntmps24]
  exact h
/-- orangery/orangerylaw17.HallAllocs -/
def pl_4 (n : Nat) : Plan :=
  let _ := n; .done
def tb_4 (n : Nat) : List Row :=
  let _ := n; []
theorem enter_4 {c : Code} {args : List HV} {PS : PL} {K : HV → PL → Prop} (hc : Tryz.f4.body = some c) (h : hvc (hop Tryz.prog) (drawBy Tryz.prog pu pl_4) c (hret Tryz.prog [.tmp 6] K) (hframe 171 args) PS) : HCall Tryz.prog 4 args PS K := by
  have hp : (match Tryz.f4.body with | some c => plansOk pu tb_4 pl_4 c | none => true) = true := by kernel_rfl
  rw [hc] at hp
  refine hcall_of_plans tb_4 pl_4 pu mixed Tryz.func4 hc hp ?_
  rw [Tryz.results4, Tryz.ntmps4]
  exact h
/-- orangery/orangerylaw17.HallHands -/
def pl_3 (n : Nat) : Plan :=
  let _ := n; .done
def tb_3 (n : Nat) : List Row :=
  let _ := n; []
theorem enter_3 {c : Code} {args : List HV} {PS : PL} {K : HV → PL → Prop} (hc : Tryz.f3.body = some c) (h : hvc (hop Tryz.prog) (drawBy Tryz.prog pu pl_3) c (hret Tryz.prog [.tmp 2] K) (hframe 116 args) PS) : HCall Tryz.prog 3 args PS K := by
  have hp : (match Tryz.f3.body with | some c => plansOk pu tb_3 pl_3 c | none => true) = true := by kernel_rfl
  rw [hc] at hp
  refine hcall_of_plans tb_3 pl_3 pu mixed Tryz.func3 hc hp ?_
  rw [Tryz.results3, Tryz.ntmps3]
  exact h
/-- orangery/orangerylaw27.awake -/
def pl_25 (n : Nat) : Plan :=
  let _ := n; .done
def tb_25 (n : Nat) : List Row :=
  let _ := n; []
theorem enter_25 {c : Code} {args : List HV} {PS : PL} {K : HV → PL → Prop} (hc : Tryz.f25.body = some c) (h : hvc (hop Tryz.prog) (drawBy Tryz.prog pu pl_25) c (hret Tryz.prog [.tmp 0] K) (hframe 62 args) PS) : HCall Tryz.prog 25 args PS K := by
  have hp : (match Tryz.f25.body with | some c => plansOk pu tb_25 pl_25 c | none => true) = true := by kernel_rfl
  rw [hc] at hp
  refine hcall_of_plans tb_25 pl_25 pu mixed Tryz.func25 hc hp ?_
  rw [Tryz.results25, Tryz.ntmps25]
  exact h
/-- orangery/orangerylaw17.awake -/
def pl_9 (n : Nat) : Plan :=
  let _ := n; .done
def tb_9 (n : Nat) : List Row :=
  let _ := n; []
theorem enter_9 {c : Code} {args : List HV} {PS : PL} {K : HV → PL → Prop} (hc : Tryz.f9.body = some c) (h : hvc (hop Tryz.prog) (drawBy Tryz.prog pu pl_9) c (hret Tryz.prog [.tmp 0] K) (hframe 121 args) PS) : HCall Tryz.prog 9 args PS K := by
  have hp : (match Tryz.f9.body with | some c => plansOk pu tb_9 pl_9 c | none => true) = true := by kernel_rfl
  rw [hc] at hp
  refine hcall_of_plans tb_9 pl_9 pu mixed Tryz.func9 hc hp ?_
  rw [Tryz.results9, Tryz.ntmps9]
  exact h
/-- slices.Clone[[]orangery/api.Want,orangery/api.Want] -/
def pl_99 (n : Nat) : Plan :=
  let _ := n; .done
def tb_99 (n : Nat) : List Row :=
  let _ := n; []
theorem enter_99 {c : Code} {args : List HV} {PS : PL} {K : HV → PL → Prop} (hc : Tryz.f99.body = some c) (h : hvc (hop Tryz.prog) (drawBy Tryz.prog pu pl_99) c (hret Tryz.prog [.tmp 2] K) (hframe 8 args) PS) : HCall Tryz.prog 99 args PS K := by
  have hp : (match Tryz.f99.body with | some c => plansOk pu tb_99 pl_99 c | none => true) = true := by kernel_rfl
  rw [hc] at hp
  refine hcall_of_plans tb_99 pl_99 pu mixed Tryz.func99 hc hp ?_
  rw [Tryz.results99, Tryz.ntmps99]
  exact h
/-- slices.Clone[[]int,int] -/
def pl_137 (n : Nat) : Plan :=
  let _ := n; .done
def tb_137 (n : Nat) : List Row :=
  let _ := n; []
theorem enter_137 {c : Code} {args : List HV} {PS : PL} {K : HV → PL → Prop} (hc : Tryz.f137.body = some c) (h : hvc (hop Tryz.prog) (drawBy Tryz.prog pu pl_137) c (hret Tryz.prog [.tmp 2] K) (hframe 8 args) PS) : HCall Tryz.prog 137 args PS K := by
  have hp : (match Tryz.f137.body with | some c => plansOk pu tb_137 pl_137 c | none => true) = true := by kernel_rfl
  rw [hc] at hp
  refine hcall_of_plans tb_137 pl_137 pu mixed Tryz.func137 hc hp ?_
  rw [Tryz.results137, Tryz.ntmps137]
  exact h
/-- slices.Clone[[]orangery/api.Msg,orangery/api.Msg] -/
def pl_138 (n : Nat) : Plan :=
  let _ := n; .done
def tb_138 (n : Nat) : List Row :=
  let _ := n; []
theorem enter_138 {c : Code} {args : List HV} {PS : PL} {K : HV → PL → Prop} (hc : Tryz.f138.body = some c) (h : hvc (hop Tryz.prog) (drawBy Tryz.prog pu pl_138) c (hret Tryz.prog [.tmp 2] K) (hframe 8 args) PS) : HCall Tryz.prog 138 args PS K := by
  have hp : (match Tryz.f138.body with | some c => plansOk pu tb_138 pl_138 c | none => true) = true := by kernel_rfl
  rw [hc] at hp
  refine hcall_of_plans tb_138 pl_138 pu mixed Tryz.func138 hc hp ?_
  rw [Tryz.results138, Tryz.ntmps138]
  exact h
/-- bytes.Clone -/
def pl_162 (n : Nat) : Plan :=
  let _ := n; .done
def tb_162 (n : Nat) : List Row :=
  let _ := n; []
theorem enter_162 {c : Code} {args : List HV} {PS : PL} {K : HV → PL → Prop} (hc : Tryz.f162.body = some c) (h : hvc (hop Tryz.prog) (drawBy Tryz.prog pu pl_162) c (hret Tryz.prog [.tmp 2] K) (hframe 8 args) PS) : HCall Tryz.prog 162 args PS K := by
  have hp : (match Tryz.f162.body with | some c => plansOk pu tb_162 pl_162 c | none => true) = true := by kernel_rfl
  rw [hc] at hp
  refine hcall_of_plans tb_162 pl_162 pu mixed Tryz.func162 hc hp ?_
  rw [Tryz.results162, Tryz.ntmps162]
  exact h
/-- slices.Clone[[]orangery/api.Entry,orangery/api.Entry] -/
def pl_172 (n : Nat) : Plan :=
  let _ := n; .done
def tb_172 (n : Nat) : List Row :=
  let _ := n; []
theorem enter_172 {c : Code} {args : List HV} {PS : PL} {K : HV → PL → Prop} (hc : Tryz.f172.body = some c) (h : hvc (hop Tryz.prog) (drawBy Tryz.prog pu pl_172) c (hret Tryz.prog [.tmp 2] K) (hframe 8 args) PS) : HCall Tryz.prog 172 args PS K := by
  have hp : (match Tryz.f172.body with | some c => plansOk pu tb_172 pl_172 c | none => true) = true := by kernel_rfl
  rw [hc] at hp
  refine hcall_of_plans tb_172 pl_172 pu mixed Tryz.func172 hc hp ?_
  rw [Tryz.results172, Tryz.ntmps172]
  exact h
/-- slices.Clone[[]orangery/api.Key,orangery/api.Key] -/
def pl_173 (n : Nat) : Plan :=
  let _ := n; .done
def tb_173 (n : Nat) : List Row :=
  let _ := n; []
theorem enter_173 {c : Code} {args : List HV} {PS : PL} {K : HV → PL → Prop} (hc : Tryz.f173.body = some c) (h : hvc (hop Tryz.prog) (drawBy Tryz.prog pu pl_173) c (hret Tryz.prog [.tmp 2] K) (hframe 8 args) PS) : HCall Tryz.prog 173 args PS K := by
  have hp : (match Tryz.f173.body with | some c => plansOk pu tb_173 pl_173 c | none => true) = true := by kernel_rfl
  rw [hc] at hp
  refine hcall_of_plans tb_173 pl_173 pu mixed Tryz.func173 hc hp ?_
  rw [Tryz.results173, Tryz.ntmps173]
  exact h
/-- slices.Clone[[]orangery/api.Op,orangery/api.Op] -/
def pl_183 (n : Nat) : Plan :=
  let _ := n; .done
def tb_183 (n : Nat) : List Row :=
  let _ := n; []
theorem enter_183 {c : Code} {args : List HV} {PS : PL} {K : HV → PL → Prop} (hc : Tryz.f183.body = some c) (h : hvc (hop Tryz.prog) (drawBy Tryz.prog pu pl_183) c (hret Tryz.prog [.tmp 2] K) (hframe 8 args) PS) : HCall Tryz.prog 183 args PS K := by
  have hp : (match Tryz.f183.body with | some c => plansOk pu tb_183 pl_183 c | none => true) = true := by kernel_rfl
  rw [hc] at hp
  refine hcall_of_plans tb_183 pl_183 pu mixed Tryz.func183 hc hp ?_
  rw [Tryz.results183, Tryz.ntmps183]
  exact h
/-- slices.Clone[[]orangery/api.Event,orangery/api.Event] -/
def pl_195 (n : Nat) : Plan :=
  let _ := n; .done
def tb_195 (n : Nat) : List Row :=
  let _ := n; []
theorem enter_195 {c : Code} {args : List HV} {PS : PL} {K : HV → PL → Prop} (hc : Tryz.f195.body = some c) (h : hvc (hop Tryz.prog) (drawBy Tryz.prog pu pl_195) c (hret Tryz.prog [.tmp 2] K) (hframe 8 args) PS) : HCall Tryz.prog 195 args PS K := by
  have hp : (match Tryz.f195.body with | some c => plansOk pu tb_195 pl_195 c | none => true) = true := by kernel_rfl
  rw [hc] at hp
  refine hcall_of_plans tb_195 pl_195 pu mixed Tryz.func195 hc hp ?_
  rw [Tryz.results195, Tryz.ntmps195]
  exact h
end Go.Proofs.YtocplecibgckoaaGreat
