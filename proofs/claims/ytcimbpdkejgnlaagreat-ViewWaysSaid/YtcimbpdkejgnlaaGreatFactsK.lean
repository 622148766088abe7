/-
  Facts of the program, printed by a program of mine: walks.
  No conditions.
-/
import Derived.Test.YtcimbpdkejgnlaaGreatFactsT
import Derived.Test.YtcimbpdkejgnlaaGreatEngW
namespace Go.Proofs.YtcimbpdkejgnlaaGreat
open Go Go.Eng
set_option maxRecDepth 20000
set_option linter.unusedSectionVars false
variable [Toks]
/-- orangery/key.Check -/
def pl_414 (n : Nat) : Plan :=
  match n with
  | 4 => .one 0 <| .one 1 <| .one 2 <| .one 3 <| .one 4 <| .one 5 <| .alt 6 [] (.done) <| .none
  | _ => .done
@[go_sem] theorem plan_414_4 : pl_414 4 = (.one 0 <| .one 1 <| .one 2 <| .one 3 <| .one 4 <| .one 5 <| .alt 6 [] (.done) <| .none) := id rfl
def tb_414 (n : Nat) : List Row :=
  match n with
  | 4 => [⟨32768, 8, 0, 1⟩, ⟨65536, 2, 0, 1⟩, ⟨131072, 65536, 2, 2⟩, ⟨262144, 163840, 5, 1⟩, ⟨524288, 2, 0, 1⟩, ⟨1048576, 524288, 16, 1⟩, ⟨2097152, 1310720, 40, 5⟩]
  | _ => []
theorem enter_414 {c : Code} {args : List HV} {PS : PL} {K : HV → PL → Prop} (hc : Tryz.f414.body = some c) (h : hvc (hop Tryz.prog) (drawBy Tryz.prog pu pl_414) c (hret Tryz.prog [.tmp 2] K) (hframe 25 args) PS) : HCall Tryz.prog 414 args PS K := by
  have hp : (match Tryz.f414.body with | some c => plansOk pu tb_414 pl_414 c | none => true) = true := by kernel_rfl
  rw [hc] at hp
  refine hcall_of_plans tb_414 pl_414 pu mixed Tryz.func414 hc hp ?_
  rw [Tryz.results414, Tryz.ntmps414]
  exact h
/-- orangery/value.of -/
def pl_392 (n : Nat) : Plan :=
  let _ := n; .done
def tb_392 (n : Nat) : List Row :=
  let _ := n; []
theorem enter_392 {c : Code} {args : List HV} {PS : PL} {K : HV → PL → Prop} (hc : Tryz.f392.body = some c) (h : hvc (hop Tryz.prog) (drawBy Tryz.prog pu pl_392) c (hret Tryz.prog [.cell 2 64] K) (hframe 12 args) PS) : HCall Tryz.prog 392 args PS K := by
  have hp : (match Tryz.f392.body with | some c => plansOk pu tb_392 pl_392 c | none => true) = true := by kernel_rfl
  rw [hc] at hp
  refine hcall_of_plans tb_392 pl_392 pu mixed Tryz.func392 hc hp ?_
  rw [Tryz.results392, Tryz.ntmps392]
  exact h
/-- orangery/value.Check -/
def pl_415 (n : Nat) : Plan :=
  match n with
  | 1 => .one 0 <| .one 1 <| .one 2 <| .one 3 <| .one 4 <| .one 5 <| .one 6 <| .one 7 <| .one 8 <| .one 9 <| .one 10 <| .one 11 <| .one 12 <| .one 13 <| .one 14 <| .one 15 <| .one 16 <| .one 17 <| .done
  | _ => .done
@[go_sem] theorem plan_415_1 : pl_415 1 = (.one 0 <| .one 1 <| .one 2 <| .one 3 <| .one 4 <| .one 5 <| .one 6 <| .one 7 <| .one 8 <| .one 9 <| .one 10 <| .one 11 <| .one 12 <| .one 13 <| .one 14 <| .one 15 <| .one 16 <| .one 17 <| .done) := id rfl
def tb_415 (n : Nat) : List Row :=
  match n with
  | 1 => [⟨8, 2, 0, 1⟩, ⟨16, 8, 1, 2⟩, ⟨32, 16, 2, 1⟩, ⟨64, 32, 4, 0⟩, ⟨128, 66, 8, 1⟩, ⟨256, 192, 24, 2⟩, ⟨512, 320, 40, 1⟩, ⟨1024, 576, 72, 0⟩, ⟨2048, 1024, 136, 0⟩, ⟨4096, 2050, 256, 1⟩, ⟨8192, 2050, 256, 1⟩, ⟨16384, 10240, 1280, 2⟩, ⟨32768, 22528, 2816, 1⟩, ⟨65536, 34816, 4352, 2⟩, ⟨131072, 2050, 256, 2⟩, ⟨262144, 198656, 24832, 1⟩, ⟨524288, 264192, 33024, 0⟩, ⟨4, 524288, 131071, 0⟩]
  | _ => []
theorem enter_415 {c : Code} {args : List HV} {PS : PL} {K : HV → PL → Prop} (hc : Tryz.f415.body = some c) (h : hvc (hop Tryz.prog) (drawBy Tryz.prog pu pl_415) c (hret Tryz.prog [.tmp 2] K) (hframe 20 args) PS) : HCall Tryz.prog 415 args PS K := by
  have hp : (match Tryz.f415.body with | some c => plansOk pu tb_415 pl_415 c | none => true) = true := by kernel_rfl
  rw [hc] at hp
  refine hcall_of_plans tb_415 pl_415 pu mixed Tryz.func415 hc hp ?_
  rw [Tryz.results415, Tryz.ntmps415]
  exact h
/-- orangery/orangerylaw00.Value -/
def pl_35 (n : Nat) : Plan :=
  let _ := n; .done
def tb_35 (n : Nat) : List Row :=
  let _ := n; []
theorem enter_35 {c : Code} {args : List HV} {PS : PL} {K : HV → PL → Prop} (hc : Tryz.f35.body = some c) (h : hvc (hop Tryz.prog) (drawBy Tryz.prog pu pl_35) c (hret Tryz.prog [.cell 2 64] K) (hframe 38 args) PS) : HCall Tryz.prog 35 args PS K := by
  have hp : (match Tryz.f35.body with | some c => plansOk pu tb_35 pl_35 c | none => true) = true := by kernel_rfl
  rw [hc] at hp
  refine hcall_of_plans tb_35 pl_35 pu mixed Tryz.func35 hc hp ?_
  rw [Tryz.results35, Tryz.ntmps35]
  exact h
/-- orangery/orangeryref04.Of -/
def pl_117 (n : Nat) : Plan :=
  let _ := n; .done
def tb_117 (n : Nat) : List Row :=
  let _ := n; []
theorem enter_117 {c : Code} {args : List HV} {PS : PL} {K : HV → PL → Prop} (hc : Tryz.f117.body = some c) (h : hvc (hop Tryz.prog) (drawBy Tryz.prog pu pl_117) c (hret Tryz.prog [.cell 2 64, .tmp 3] K) (hframe 27 args) PS) : HCall Tryz.prog 117 args PS K := by
  have hp : (match Tryz.f117.body with | some c => plansOk pu tb_117 pl_117 c | none => true) = true := by kernel_rfl
  rw [hc] at hp
  refine hcall_of_plans tb_117 pl_117 pu mixed Tryz.func117 hc hp ?_
  rw [Tryz.results117, Tryz.ntmps117]
  exact h
/-- orangery/key.Of -/
def pl_416 (n : Nat) : Plan :=
  let _ := n; .done
def tb_416 (n : Nat) : List Row :=
  let _ := n; []
theorem enter_416 {c : Code} {args : List HV} {PS : PL} {K : HV → PL → Prop} (hc : Tryz.f416.body = some c) (h : hvc (hop Tryz.prog) (drawBy Tryz.prog pu pl_416) c (hret Tryz.prog [.cell 2 53, .tmp 3] K) (hframe 17 args) PS) : HCall Tryz.prog 416 args PS K := by
  have hp : (match Tryz.f416.body with | some c => plansOk pu tb_416 pl_416 c | none => true) = true := by kernel_rfl
  rw [hc] at hp
  refine hcall_of_plans tb_416 pl_416 pu mixed Tryz.func416 hc hp ?_
  rw [Tryz.results416, Tryz.ntmps416]
  exact h
/-- orangery/value.Of -/
def pl_417 (n : Nat) : Plan :=
  let _ := n; .done
def tb_417 (n : Nat) : List Row :=
  let _ := n; []
theorem enter_417 {c : Code} {args : List HV} {PS : PL} {K : HV → PL → Prop} (hc : Tryz.f417.body = some c) (h : hvc (hop Tryz.prog) (drawBy Tryz.prog pu pl_417) c (hret Tryz.prog [.cell 2 64, .tmp 3] K) (hframe 11 args) PS) : HCall Tryz.prog 417 args PS K := by
  have hp : (match Tryz.f417.body with | some c => plansOk pu tb_417 pl_417 c | none => true) = true := by kernel_rfl
  rw [hc] at hp
  refine hcall_of_plans tb_417 pl_417 pu mixed Tryz.func417 hc hp ?_
  rw [Tryz.results417, Tryz.ntmps417]
  exact h
/-- cmp.Less[int] -/
def pl_333 (n : Nat) : Plan :=
  let _ := n; .done
def tb_333 (n : Nat) : List Row :=
  let _ := n; []
theorem enter_333 {c : Code} {args : List HV} {PS : PL} {K : HV → PL → Prop} (hc : Tryz.f333.body = some c) (h : hvc (hop Tryz.prog) (drawBy Tryz.prog pu pl_333) c (hret Tryz.prog [.tmp 4] K) (hframe 17 args) PS) : HCall Tryz.prog 333 args PS K := by
  have hp : (match Tryz.f333.body with | some c => plansOk pu tb_333 pl_333 c | none => true) = true := by kernel_rfl
  rw [hc] at hp
  refine hcall_of_plans tb_333 pl_333 pu mixed Tryz.func333 hc hp ?_
  rw [Tryz.results333, Tryz.ntmps333]
  exact h
/-- cmp.isNaN[int] -/
def pl_399 (n : Nat) : Plan :=
  let _ := n; .done
def tb_399 (n : Nat) : List Row :=
  let _ := n; []
theorem enter_399 {c : Code} {args : List HV} {PS : PL} {K : HV → PL → Prop} (hc : Tryz.f399.body = some c) (h : hvc (hop Tryz.prog) (drawBy Tryz.prog pu pl_399) c (hret Tryz.prog [.tmp 2] K) (hframe 6 args) PS) : HCall Tryz.prog 399 args PS K := by
  have hp : (match Tryz.f399.body with | some c => plansOk pu tb_399 pl_399 c | none => true) = true := by kernel_rfl
  rw [hc] at hp
  refine hcall_of_plans tb_399 pl_399 pu mixed Tryz.func399 hc hp ?_
  rw [Tryz.results399, Tryz.ntmps399]
  exact h
/-- slices.Sort[[]int,int] -/
def pl_130 (n : Nat) : Plan :=
  let _ := n; .done
def tb_130 (n : Nat) : List Row :=
  let _ := n; []
theorem enter_130 {c : Code} {args : List HV} {PS : PL} {K : HV → PL → Prop} (hc : Tryz.f130.body = some c) (h : hvc (hop Tryz.prog) (drawBy Tryz.prog pu pl_130) c (hret Tryz.prog [] K) (hframe 11 args) PS) : HCall Tryz.prog 130 args PS K := by
  have hp : (match Tryz.f130.body with | some c => plansOk pu tb_130 pl_130 c | none => true) = true := by kernel_rfl
  rw [hc] at hp
  refine hcall_of_plans tb_130 pl_130 pu mixed Tryz.func130 hc hp ?_
  rw [Tryz.results130, Tryz.ntmps130]
  exact h
/-- slices.insertionSortOrdered[int] -/
def pl_327 (n : Nat) : Plan :=
  match n with
  | 4 => .one 0 <| .one 1 <| .one 2 <| .one 3 <| .one 4 <| .one 5 <| .one 6 <| .one 7 <| .one 8 <| .one 9 <| .one 10 <| .one 11 <| .one 12 <| .alt 13 [] (.one 14 <| .done) <| .none
  | 6 => .one 0 <| .one 1 <| .one 2 <| .one 3 <| .one 4 <| .one 5 <| .one 6 <| .one 7 <| .one 8 <| .one 9 <| .one 10 <| .one 11 <| .one 12 <| .one 13 <| .one 14 <| .alt 15 [] (.one 16 <| .alt 17 [] (.done) <| .none) <| .none
  | _ => .done
@[go_sem] theorem plan_327_4 : pl_327 4 = (.one 0 <| .one 1 <| .one 2 <| .one 3 <| .one 4 <| .one 5 <| .one 6 <| .one 7 <| .one 8 <| .one 9 <| .one 10 <| .one 11 <| .one 12 <| .alt 13 [] (.one 14 <| .done) <| .none) := id rfl
@[go_sem] theorem plan_327_6 : pl_327 6 = (.one 0 <| .one 1 <| .one 2 <| .one 3 <| .one 4 <| .one 5 <| .one 6 <| .one 7 <| .one 8 <| .one 9 <| .one 10 <| .one 11 <| .one 12 <| .one 13 <| .one 14 <| .alt 15 [] (.one 16 <| .alt 17 [] (.done) <| .none) <| .none) := id rfl
def tb_327 (n : Nat) : List Row :=
  match n with
  | 4 => [⟨65536, 128, 0, 0⟩, ⟨131072, 2, 0, 0⟩, ⟨262144, 196608, 3, 1⟩, ⟨524288, 262144, 4, 0⟩, ⟨1048576, 524289, 8, 0⟩, ⟨2097152, 524416, 8, 0⟩, ⟨4194304, 3670016, 56, 1⟩, ⟨8388608, 4718592, 72, 2⟩, ⟨16777216, 524289, 8, 0⟩, ⟨33554432, 524416, 8, 0⟩, ⟨67108864, 34078720, 520, 1⟩, ⟨134217728, 84410368, 1288, 1⟩, ⟨268435456, 134742016, 2056, 2⟩, ⟨536870912, 277348352, 4232, 5⟩, ⟨1073741824, 537395200, 8200, 0⟩]
  | 6 => [⟨8589934592, 1, 0, 0⟩, ⟨17179869184, 128, 0, 0⟩, ⟨34359738368, 1, 0, 0⟩, ⟨68719476736, 128, 0, 0⟩, ⟨137438953472, 68719476736, 8, 1⟩, ⟨274877906944, 1, 0, 0⟩, ⟨549755813888, 128, 0, 0⟩, ⟨1099511627776, 549755813888, 64, 1⟩, ⟨2199023255552, 1374389534720, 160, 1⟩, ⟨4398046511104, 2199023255552, 256, 2⟩, ⟨8796093022208, 1, 0, 0⟩, ⟨17592186044416, 128, 0, 0⟩, ⟨35184372088832, 26388279066624, 3072, 1⟩, ⟨70368744177664, 35184372088832, 4096, 2⟩, ⟨140737488355328, 25769803776, 9187, 1⟩, ⟨0, 145135534866432, 25571, 4⟩, ⟨281474976710656, 171798691840, 65535, 1⟩, ⟨0, 351843720888320, 131071, 4⟩]
  | _ => []
theorem enter_327 {c : Code} {args : List HV} {PS : PL} {K : HV → PL → Prop} (hc : Tryz.f327.body = some c) (h : hvc (hop Tryz.prog) (drawBy Tryz.prog pu pl_327) c (hret Tryz.prog [] K) (hframe 49 args) PS) : HCall Tryz.prog 327 args PS K := by
  have hp : (match Tryz.f327.body with | some c => plansOk pu tb_327 pl_327 c | none => true) = true := by kernel_rfl
  rw [hc] at hp
  refine hcall_of_plans tb_327 pl_327 pu mixed Tryz.func327 hc hp ?_
  rw [Tryz.results327, Tryz.ntmps327]
  exact h
/-- slices.pdqsortOrdered[int] -/
def pl_237 (n : Nat) : Plan :=
  match n with
  | 17 => .one 0 <| .one 1 <| .one 2 <| .one 3 <| .one 4 <| .one 5 <| .one 6 <| .one 7 <| .one 8 <| .one 9 <| .one 10 <| .one 11 <| .alt 12 [] (.one 13 <| .one 14 <| .done) <| .none
  | _ => .done
@[go_sem] theorem plan_237_17 : pl_237 17 = (.one 0 <| .one 1 <| .one 2 <| .one 3 <| .one 4 <| .one 5 <| .one 6 <| .one 7 <| .one 8 <| .one 9 <| .one 10 <| .one 11 <| .alt 12 [] (.one 13 <| .one 14 <| .done) <| .none) := id rfl
def tb_237 (n : Nat) : List Row :=
  match n with
  | 17 => [⟨9444732965739290427392, 2, 0, 0⟩, ⟨18889465931478580854784, 9444732965739290427392, 1, 1⟩, ⟨37778931862957161709568, 18889465931478580854784, 2, 0⟩, ⟨75557863725914323419136, 37778931862957161709569, 4, 0⟩, ⟨151115727451828646838272, 37778931862957161709570, 4, 0⟩, ⟨302231454903657293676544, 188894659314785808547840, 20, 1⟩, ⟨604462909807314587353088, 415568250492528778805248, 44, 1⟩, ⟨1208925819614629174706176, 642241841670271749062656, 68, 2⟩, ⟨2417851639229258349412352, 37778931862957161709569, 4, 0⟩, ⟨4835703278458516698824704, 37778931862957161711616, 4, 0⟩, ⟨9671406556917033397649408, 7291333849550732209946624, 772, 1⟩, ⟨19342813113834066795298816, 9709185488779990559358976, 1028, 2⟩, ⟨38685626227668133590597632, 20589517865311653131714560, 2180, 5⟩, ⟨77371252455336267181195264, 38723405159531090752307200, 4100, 0⟩, ⟨154742504910672534362390528, 77409031387199224342904832, 8196, 0⟩]
  | _ => []
theorem enter_237 {c : Code} {args : List HV} {PS : PL} {K : HV → PL → Prop} (hc : Tryz.f237.body = some c) (h : hvc (hop Tryz.prog) (drawBy Tryz.prog pu pl_237) c (hret Tryz.prog [] K) (hframe 134 args) PS) : HCall Tryz.prog 237 args PS K := by
  have hp : (match Tryz.f237.body with | some c => plansOk pu tb_237 pl_237 c | none => true) = true := by kernel_rfl
  rw [hc] at hp
  refine hcall_of_plans tb_237 pl_237 pu mixed Tryz.func237 hc hp ?_
  rw [Tryz.results237, Tryz.ntmps237]
  exact h
/-- orangery/key.Text -/
def pl_357 (n : Nat) : Plan :=
  let _ := n; .done
def tb_357 (n : Nat) : List Row :=
  let _ := n; []
theorem enter_357 {c : Code} {args : List HV} {PS : PL} {K : HV → PL → Prop} (hc : Tryz.f357.body = some c) (h : hvc (hop Tryz.prog) (drawBy Tryz.prog pu pl_357) c (hret Tryz.prog [.tmp 2] K) (hframe 11 args) PS) : HCall Tryz.prog 357 args PS K := by
  have hp : (match Tryz.f357.body with | some c => plansOk pu tb_357 pl_357 c | none => true) = true := by kernel_rfl
  rw [hc] at hp
  refine hcall_of_plans tb_357 pl_357 pu mixed Tryz.func357 hc hp ?_
  rw [Tryz.results357, Tryz.ntmps357]
  exact h
/-- orangery/key.Compare -/
def pl_265 (n : Nat) : Plan :=
  match n with
  | 1 => .one 0 <| .one 1 <| .one 2 <| .one 3 <| .one 4 <| .one 5 <| .done
  | _ => .done
@[go_sem] theorem plan_265_1 : pl_265 1 = (.one 0 <| .one 1 <| .one 2 <| .one 3 <| .one 4 <| .one 5 <| .done) := id rfl
def tb_265 (n : Nat) : List Row :=
  match n with
  | 1 => [⟨32, 4, 0, 2⟩, ⟨64, 32, 1, 0⟩, ⟨128, 8, 0, 2⟩, ⟨256, 128, 6, 0⟩, ⟨512, 320, 10, 0⟩, ⟨16, 512, 31, 0⟩]
  | _ => []
theorem enter_265 {c : Code} {args : List HV} {PS : PL} {K : HV → PL → Prop} (hc : Tryz.f265.body = some c) (h : hvc (hop Tryz.prog) (drawBy Tryz.prog pu pl_265) c (hret Tryz.prog [.tmp 4] K) (hframe 10 args) PS) : HCall Tryz.prog 265 args PS K := by
  have hp : (match Tryz.f265.body with | some c => plansOk pu tb_265 pl_265 c | none => true) = true := by kernel_rfl
  rw [hc] at hp
  refine hcall_of_plans tb_265 pl_265 pu mixed Tryz.func265 hc hp ?_
  rw [Tryz.results265, Tryz.ntmps265]
  exact h
/-- orangery/orangeryref03.Of -/
def pl_110 (n : Nat) : Plan :=
  let _ := n; .done
def tb_110 (n : Nat) : List Row :=
  let _ := n; []
theorem enter_110 {c : Code} {args : List HV} {PS : PL} {K : HV → PL → Prop} (hc : Tryz.f110.body = some c) (h : hvc (hop Tryz.prog) (drawBy Tryz.prog pu pl_110) c (hret Tryz.prog [.cell 2 53, .tmp 3] K) (hframe 27 args) PS) : HCall Tryz.prog 110 args PS K := by
  have hp : (match Tryz.f110.body with | some c => plansOk pu tb_110 pl_110 c | none => true) = true := by kernel_rfl
  rw [hc] at hp
  refine hcall_of_plans tb_110 pl_110 pu mixed Tryz.func110 hc hp ?_
  rw [Tryz.results110, Tryz.ntmps110]
  exact h
/-- orangery/orangerylaw00.Key -/
def pl_29 (n : Nat) : Plan :=
  let _ := n; .done
def tb_29 (n : Nat) : List Row :=
  let _ := n; []
theorem enter_29 {c : Code} {args : List HV} {PS : PL} {K : HV → PL → Prop} (hc : Tryz.f29.body = some c) (h : hvc (hop Tryz.prog) (drawBy Tryz.prog pu pl_29) c (hret Tryz.prog [.cell 2 53] K) (hframe 93 args) PS) : HCall Tryz.prog 29 args PS K := by
  have hp : (match Tryz.f29.body with | some c => plansOk pu tb_29 pl_29 c | none => true) = true := by kernel_rfl
  rw [hc] at hp
  refine hcall_of_plans tb_29 pl_29 pu mixed Tryz.func29 hc hp ?_
  rw [Tryz.results29, Tryz.ntmps29]
  exact h
end Go.Proofs.YtcimbpdkejgnlaaGreat
