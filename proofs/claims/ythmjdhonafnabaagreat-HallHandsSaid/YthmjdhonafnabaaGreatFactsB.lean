/-
  Facts of the program, printed by a program of mine: walks.
  No conditions.
-/
import Derived.Test.YthmjdhonafnabaaGreatFactsT
import Derived.Test.YthmjdhonafnabaaGreatEngW
namespace Go.Proofs.YthmjdhonafnabaaGreat
open Go Go.Eng
set_option maxRecDepth 20000
/-- orangery/orangerylaw17.HallHands -/
def pl_3 (n : Nat) : Plan :=
  let _ := n; .done
def tb_3 (n : Nat) : List Row :=
  let _ := n; []
theorem enter_3 {c : Code} {args : List HV} {PS : PL} {K : HV → PL → Prop} (hc : Tryz.f3.body = some c) (h : hvc (hop Tryz.prog) (drawBy Tryz.prog pu pl_3) c (hret Tryz.prog [.tmp 2] K) (hframe 116 args) PS) : HCall Tryz.prog 3 args PS K := by
  have hp : (match Tryz.f3.body with | some c => plansOk pu tb_3 pl_3 c | none => true) = true := by kernel_rfl
  rw [hc] at hp
  refine hcall_of_plans tb_3 pl_3 pu mixed Tryz.func3 hc hp ?_
  rw [Tryz.results3, Tryz.ntmps3]
  exact h
/-- orangery/orangerylaw17.HallAllocs -/
def pl_4 (n : Nat) : Plan :=
  let _ := n; .done
def tb_4 (n : Nat) : List Row :=
  let _ := n; []
theorem enter_4 {c : Code} {args : List HV} {PS : PL} {K : HV → PL → Prop} (hc : Tryz.f4.body = some c) (h : hvc (hop Tryz.prog) (drawBy Tryz.prog pu pl_4) c (hret Tryz.prog [.tmp 6] K) (hframe 171 args) PS) : HCall Tryz.prog 4 args PS K := by
  have hp : (match Tryz.f4.body with | some c => plansOk pu tb_4 pl_4 c | none => true) = true := by kernel_rfl
  rw [hc] at hp
  refine hcall_of_plans tb_4 pl_4 pu mixed Tryz.func4 hc hp ?_
  rw [Tryz.results4, Tryz.ntmps4]
  exact h
/-- orangery/orangerylaw17.HallSets -/
def pl_5 (n : Nat) : Plan :=
  let _ := n; .done
def tb_5 (n : Nat) : List Row :=
  let _ := n; []
theorem enter_5 {c : Code} {args : List HV} {PS : PL} {K : HV → PL → Prop} (hc : Tryz.f5.body = some c) (h : hvc (hop Tryz.prog) (drawBy Tryz.prog pu pl_5) c (hret Tryz.prog [.tmp 8] K) (hframe 114 args) PS) : HCall Tryz.prog 5 args PS K := by
  have hp : (match Tryz.f5.body with | some c => plansOk pu tb_5 pl_5 c | none => true) = true := by kernel_rfl
  rw [hc] at hp
  refine hcall_of_plans tb_5 pl_5 pu mixed Tryz.func5 hc hp ?_
  rw [Tryz.results5, Tryz.ntmps5]
  exact h
/-- orangery/orangerylaw17.HallEvicts -/
def pl_6 (n : Nat) : Plan :=
  match n with
  | 29 => .one 0 <| .one 1 <| .one 2 <| .one 3 <| .one 4 <| .one 5 <| .one 6 <| .one 7 <| .one 8 <| .one 9 <| .one 10 <| .one 11 <| .one 12 <| .done
  | _ => .done
@[go_sem] theorem plan_6_29 : pl_6 29 = (.one 0 <| .one 1 <| .one 2 <| .one 3 <| .one 4 <| .one 5 <| .one 6 <| .one 7 <| .one 8 <| .one 9 <| .one 10 <| .one 11 <| .one 12 <| .done) := id rfl
def tb_6 (n : Nat) : List Row :=
  match n with
  | 29 => [⟨332306998946228968225951765070086144, 262144, 0, 2⟩, ⟨664613997892457936451903530140172288, 131072, 0, 0⟩, ⟨1329227995784915872903807060280344576, 664613997892457936451903530140173312, 2, 1⟩, ⟨2658455991569831745807614120560689152, 1329227995784915872903807060280344576, 4, 2⟩, ⟨5316911983139663491615228241121378304, 2990762990516060714033565885630775296, 9, 0⟩, ⟨10633823966279326983230456482242756608, 5316911983139663491615228241121378304, 16, 0⟩, ⟨21267647932558653966460912964485513216, 10633823966279326983230456482242756608, 48, 0⟩, ⟨42535295865117307932921825928971026432, 21267647932558653966460912964486037504, 64, 0⟩, ⟨85070591730234615865843651857942052864, 21267647932558653966460912964485644288, 64, 0⟩, ⟨170141183460469231731687303715884105728, 106338239662793269832304564822427568128, 320, 1⟩, ⟨340282366920938463463374607431768211456, 191408831393027885698148216680369618944, 576, 2⟩, ⟨680564733841876926926749214863536422912, 404085310718614425362757346325224751104, 1216, 1⟩, ⟨1361129467683753853853498429727072845824, 701832381774435580893210127828021936128, 2112, 0⟩]
  | _ => []
theorem enter_6 {c : Code} {args : List HV} {PS : PL} {K : HV → PL → Prop} (hc : Tryz.f6.body = some c) (h : hvc (hop Tryz.prog) (drawBy Tryz.prog pu pl_6) c (hret Tryz.prog [.tmp 4] K) (hframe 132 args) PS) : HCall Tryz.prog 6 args PS K := by
  have hp : (match Tryz.f6.body with | some c => plansOk pu tb_6 pl_6 c | none => true) = true := by kernel_rfl
  rw [hc] at hp
  refine hcall_of_plans tb_6 pl_6 pu mixed Tryz.func6 hc hp ?_
  rw [Tryz.results6, Tryz.ntmps6]
  exact h
/-- orangery/orangerylaw17.HallPlays -/
def pl_7 (n : Nat) : Plan :=
  match n with
  | 13 => .one 0 <| .one 1 <| .one 2 <| .one 3 <| .one 4 <| .one 5 <| .one 6 <| .one 7 <| .one 8 <| .one 9 <| .alt 10 [] (.alt 11 [] (.one 12 <| .done) <| .none) <| .none
  | 14 => .one 0 <| .one 1 <| .one 2 <| .one 3 <| .one 4 <| .one 5 <| .one 6 <| .one 7 <| .one 8 <| .one 9 <| .alt 10 [] (.alt 11 [] (.one 12 <| .done) <| .none) <| .none
  | _ => .done
@[go_sem] theorem plan_7_13 : pl_7 13 = (.one 0 <| .one 1 <| .one 2 <| .one 3 <| .one 4 <| .one 5 <| .one 6 <| .one 7 <| .one 8 <| .one 9 <| .alt 10 [] (.alt 11 [] (.one 12 <| .done) <| .none) <| .none) := id rfl
@[go_sem] theorem plan_7_14 : pl_7 14 = (.one 0 <| .one 1 <| .one 2 <| .one 3 <| .one 4 <| .one 5 <| .one 6 <| .one 7 <| .one 8 <| .one 9 <| .alt 10 [] (.alt 11 [] (.one 12 <| .done) <| .none) <| .none) := id rfl
def tb_7 (n : Nat) : List Row :=
  match n with
  | 13 => [⟨151115727451828646838272, 128, 0, 0⟩, ⟨302231454903657293676544, 151115727451828646838272, 1, 1⟩, ⟨604462909807314587353088, 302231454903657293676544, 2, 1⟩, ⟨1208925819614629174706176, 604462909807314587353088, 4, 2⟩, ⟨2417851639229258349412352, 4096, 0, 1⟩, ⟨4835703278458516698824704, 2417851639229258349412352, 16, 2⟩, ⟨9671406556917033397649408, 6044629098073145873530880, 40, 2⟩, ⟨75557863725914323419136, 9671406556917033397649408, 64, 0⟩, ⟨19342813113834066795298816, 75557863725914323419136, 128, 0⟩, ⟨38685626227668133590597632, 75557863725914323419136, 128, 0⟩, ⟨8192, 0, 0, 3⟩, ⟨0, 19342813113834066795307008, 1535, 4⟩, ⟨16384, 38685626227668133590597632, 4095, 0⟩]
  | 14 => [⟨154742504910672534362390528, 512, 0, 0⟩, ⟨309485009821345068724781056, 154742504910672534362390528, 1, 1⟩, ⟨618970019642690137449562112, 309485009821345068724781056, 2, 1⟩, ⟨1237940039285380274899124224, 618970019642690137449562112, 4, 2⟩, ⟨2475880078570760549798248448, 4096, 0, 1⟩, ⟨4951760157141521099596496896, 2475880078570760549798248448, 16, 2⟩, ⟨9903520314283042199192993792, 6189700196426901374495621120, 40, 2⟩, ⟨77371252455336267181195264, 9903520314283042199192993792, 64, 0⟩, ⟨19807040628566084398385987584, 77371252455336267181195264, 128, 0⟩, ⟨39614081257132168796771975168, 77371252455336267181195264, 128, 0⟩, ⟨32768, 0, 0, 3⟩, ⟨0, 19807040628566084398386020352, 1535, 4⟩, ⟨65536, 39614081257132168796771975168, 4095, 0⟩]
  | _ => []
theorem enter_7 {c : Code} {args : List HV} {PS : PL} {K : HV → PL → Prop} (hc : Tryz.f7.body = some c) (h : hvc (hop Tryz.prog) (drawBy Tryz.prog pu pl_7) c (hret Tryz.prog [.tmp 6] K) (hframe 111 args) PS) : HCall Tryz.prog 7 args PS K := by
  have hp : (match Tryz.f7.body with | some c => plansOk pu tb_7 pl_7 c | none => true) = true := by kernel_rfl
  rw [hc] at hp
  refine hcall_of_plans tb_7 pl_7 pu mixed Tryz.func7 hc hp ?_
  rw [Tryz.results7, Tryz.ntmps7]
  exact h
/-- orangery/hall.New -/
def pl_8 (n : Nat) : Plan :=
  match n with
  | 8 => .one 0 <| .one 1 <| .one 2 <| .one 3 <| .one 4 <| .alt 5 [4, 3, 2] (.one 6 <| .alt 7 [] (.one 8 <| .one 9 <| .alt 10 [] (.done) <| .none) <| .none) <| .none
  | _ => .done
@[go_sem] theorem plan_8_8 : pl_8 8 = (.one 0 <| .one 1 <| .one 2 <| .one 3 <| .one 4 <| .alt 5 [4, 3, 2] (.one 6 <| .alt 7 [] (.one 8 <| .one 9 <| .alt 10 [] (.done) <| .none) <| .none) <| .none) := id rfl
def tb_8 (n : Nat) : List Row :=
  match n with
  | 8 => [⟨137438953472, 1024, 0, 0⟩, ⟨274877906944, 1024, 0, 0⟩, ⟨549755813888, 274877906944, 2, 1⟩, ⟨1099511627776, 549755813888, 4, 1⟩, ⟨2199023255552, 1099511627776, 8, 2⟩, ⟨4398046511104, 0, 0, 5⟩, ⟨8796093022208, 4398046511104, 32, 0⟩, ⟨17592186044416, 10995116277760, 112, 5⟩, ⟨35184372088832, 137438953472, 255, 1⟩, ⟨70368744177664, 35184372088832, 511, 1⟩, ⟨0, 87960930222080, 767, 4⟩]
  | _ => []
theorem enter_8 {c : Code} {args : List HV} {PS : PL} {K : HV → PL → Prop} (hc : Tryz.f8.body = some c) (h : hvc (hop Tryz.prog) (drawBy Tryz.prog pu pl_8) c (hret Tryz.prog [.tmp 4, .tmp 5] K) (hframe 58 args) PS) : HCall Tryz.prog 8 args PS K := by
  have hp : (match Tryz.f8.body with | some c => plansOk pu tb_8 pl_8 c | none => true) = true := by kernel_rfl
  rw [hc] at hp
  refine hcall_of_plans tb_8 pl_8 pu mixed Tryz.func8 hc hp ?_
  rw [Tryz.results8, Tryz.ntmps8]
  exact h
/-- orangery/orangerylaw17.awake -/
def pl_9 (n : Nat) : Plan :=
  let _ := n; .done
def tb_9 (n : Nat) : List Row :=
  let _ := n; []
theorem enter_9 {c : Code} {args : List HV} {PS : PL} {K : HV → PL → Prop} (hc : Tryz.f9.body = some c) (h : hvc (hop Tryz.prog) (drawBy Tryz.prog pu pl_9) c (hret Tryz.prog [.tmp 0] K) (hframe 121 args) PS) : HCall Tryz.prog 9 args PS K := by
  have hp : (match Tryz.f9.body with | some c => plansOk pu tb_9 pl_9 c | none => true) = true := by kernel_rfl
  rw [hc] at hp
  refine hcall_of_plans tb_9 pl_9 pu mixed Tryz.func9 hc hp ?_
  rw [Tryz.results9, Tryz.ntmps9]
  exact h
/-- (*orangery/hall.Hall).Pin -/
def pl_10 (n : Nat) : Plan :=
  let _ := n; .done
def tb_10 (n : Nat) : List Row :=
  let _ := n; []
theorem enter_10 {c : Code} {args : List HV} {PS : PL} {K : HV → PL → Prop} (hc : Tryz.f10.body = some c) (h : hvc (hop Tryz.prog) (drawBy Tryz.prog pu pl_10) c (hret Tryz.prog [.tmp 6] K) (hframe 28 args) PS) : HCall Tryz.prog 10 args PS K := by
  have hp : (match Tryz.f10.body with | some c => plansOk pu tb_10 pl_10 c | none => true) = true := by kernel_rfl
  rw [hc] at hp
  refine hcall_of_plans tb_10 pl_10 pu mixed Tryz.func10 hc hp ?_
  rw [Tryz.results10, Tryz.ntmps10]
  exact h
/-- (*orangery/hall.Hall).Load -/
def pl_11 (n : Nat) : Plan :=
  match n with
  | 6 => .one 0 <| .one 1 <| .one 2 <| .one 3 <| .one 4 <| .one 5 <| .alt 6 [] (.one 7 <| .one 8 <| .one 9 <| .one 10 <| .done) <| .none
  | _ => .done
@[go_sem] theorem plan_11_6 : pl_11 6 = (.one 0 <| .one 1 <| .one 2 <| .one 3 <| .one 4 <| .one 5 <| .alt 6 [] (.one 7 <| .one 8 <| .one 9 <| .one 10 <| .done) <| .none) := id rfl
def tb_11 (n : Nat) : List Row :=
  match n with
  | 6 => [⟨549755813888, 1, 0, 0⟩, ⟨1099511627776, 549755813888, 1, 1⟩, ⟨2199023255552, 1099511627776, 2, 1⟩, ⟨4398046511104, 2199023255552, 4, 2⟩, ⟨8796093022208, 4, 0, 0⟩, ⟨17592186044416, 1024, 0, 2⟩, ⟨35184372088832, 30786325577728, 56, 5⟩, ⟨70368744177664, 35184372088832, 64, 0⟩, ⟨140737488355328, 35184372088832, 64, 0⟩, ⟨64, 70368744177664, 511, 0⟩, ⟨128, 140737488355328, 1023, 0⟩]
  | _ => []
theorem enter_11 {c : Code} {args : List HV} {PS : PL} {K : HV → PL → Prop} (hc : Tryz.f11.body = some c) (h : hvc (hop Tryz.prog) (drawBy Tryz.prog pu pl_11) c (hret Tryz.prog [.tmp 6, .tmp 7] K) (hframe 48 args) PS) : HCall Tryz.prog 11 args PS K := by
  have hp : (match Tryz.f11.body with | some c => plansOk pu tb_11 pl_11 c | none => true) = true := by kernel_rfl
  rw [hc] at hp
  refine hcall_of_plans tb_11 pl_11 pu mixed Tryz.func11 hc hp ?_
  rw [Tryz.results11, Tryz.ntmps11]
  exact h
/-- (*orangery/hall.Hall).Take -/
def pl_12 (n : Nat) : Plan :=
  let _ := n; .done
def tb_12 (n : Nat) : List Row :=
  let _ := n; []
theorem enter_12 {c : Code} {args : List HV} {PS : PL} {K : HV → PL → Prop} (hc : Tryz.f12.body = some c) (h : hvc (hop Tryz.prog) (drawBy Tryz.prog pu pl_12) c (hret Tryz.prog [.tmp 8] K) (hframe 22 args) PS) : HCall Tryz.prog 12 args PS K := by
  have hp : (match Tryz.f12.body with | some c => plansOk pu tb_12 pl_12 c | none => true) = true := by kernel_rfl
  rw [hc] at hp
  refine hcall_of_plans tb_12 pl_12 pu mixed Tryz.func12 hc hp ?_
  rw [Tryz.results12, Tryz.ntmps12]
  exact h
/-- (*orangery/hall.Hall).May -/
def pl_13 (n : Nat) : Plan :=
  match n with
  | 7 => .one 0 <| .one 1 <| .one 2 <| .one 3 <| .one 4 <| .one 5 <| .one 6 <| .done
  | _ => .done
@[go_sem] theorem plan_13_7 : pl_13 7 = (.one 0 <| .one 1 <| .one 2 <| .one 3 <| .one 4 <| .one 5 <| .one 6 <| .done) := id rfl
def tb_13 (n : Nat) : List Row :=
  match n with
  | 7 => [⟨2097152, 1, 0, 0⟩, ⟨4194304, 2097152, 1, 1⟩, ⟨8388608, 4194304, 2, 1⟩, ⟨16777216, 8388608, 4, 2⟩, ⟨33554432, 8, 0, 2⟩, ⟨67108864, 50331648, 24, 2⟩, ⟨16, 67108864, 63, 0⟩]
  | _ => []
theorem enter_13 {c : Code} {args : List HV} {PS : PL} {K : HV → PL → Prop} (hc : Tryz.f13.body = some c) (h : hvc (hop Tryz.prog) (drawBy Tryz.prog pu pl_13) c (hret Tryz.prog [.tmp 4] K) (hframe 27 args) PS) : HCall Tryz.prog 13 args PS K := by
  have hp : (match Tryz.f13.body with | some c => plansOk pu tb_13 pl_13 c | none => true) = true := by kernel_rfl
  rw [hc] at hp
  refine hcall_of_plans tb_13 pl_13 pu mixed Tryz.func13 hc hp ?_
  rw [Tryz.results13, Tryz.ntmps13]
  exact h
/-- (*orangery/hall.Hall).Leave -/
def pl_14 (n : Nat) : Plan :=
  let _ := n; .done
def tb_14 (n : Nat) : List Row :=
  let _ := n; []
theorem enter_14 {c : Code} {args : List HV} {PS : PL} {K : HV → PL → Prop} (hc : Tryz.f14.body = some c) (h : hvc (hop Tryz.prog) (drawBy Tryz.prog pu pl_14) c (hret Tryz.prog [.tmp 6] K) (hframe 31 args) PS) : HCall Tryz.prog 14 args PS K := by
  have hp : (match Tryz.f14.body with | some c => plansOk pu tb_14 pl_14 c | none => true) = true := by kernel_rfl
  rw [hc] at hp
  refine hcall_of_plans tb_14 pl_14 pu mixed Tryz.func14 hc hp ?_
  rw [Tryz.results14, Tryz.ntmps14]
  exact h
/-- (*orangery/hall.Hall).Idle -/
def pl_15 (n : Nat) : Plan :=
  let _ := n; .done
def tb_15 (n : Nat) : List Row :=
  let _ := n; []
theorem enter_15 {c : Code} {args : List HV} {PS : PL} {K : HV → PL → Prop} (hc : Tryz.f15.body = some c) (h : hvc (hop Tryz.prog) (drawBy Tryz.prog pu pl_15) c (hret Tryz.prog [.tmp 2] K) (hframe 48 args) PS) : HCall Tryz.prog 15 args PS K := by
  have hp : (match Tryz.f15.body with | some c => plansOk pu tb_15 pl_15 c | none => true) = true := by kernel_rfl
  rw [hc] at hp
  refine hcall_of_plans tb_15 pl_15 pu mixed Tryz.func15 hc hp ?_
  rw [Tryz.results15, Tryz.ntmps15]
  exact h
/-- (*orangery/cache.Cache).Claim -/
def pl_17 (n : Nat) : Plan :=
  let _ := n; .done
def tb_17 (n : Nat) : List Row :=
  let _ := n; []
theorem enter_17 {c : Code} {args : List HV} {PS : PL} {K : HV → PL → Prop} (hc : Tryz.f17.body = some c) (h : hvc (hop Tryz.prog) (drawBy Tryz.prog pu pl_17) c (hret Tryz.prog [.tmp 4] K) (hframe 28 args) PS) : HCall Tryz.prog 17 args PS K := by
  have hp : (match Tryz.f17.body with | some c => plansOk pu tb_17 pl_17 c | none => true) = true := by kernel_rfl
  rw [hc] at hp
  refine hcall_of_plans tb_17 pl_17 pu mixed Tryz.func17 hc hp ?_
  rw [Tryz.results17, Tryz.ntmps17]
  exact h
/-- (*orangery/hall.Hall).Alloc -/
def pl_18 (n : Nat) : Plan :=
  let _ := n; .done
def tb_18 (n : Nat) : List Row :=
  let _ := n; []
theorem enter_18 {c : Code} {args : List HV} {PS : PL} {K : HV → PL → Prop} (hc : Tryz.f18.body = some c) (h : hvc (hop Tryz.prog) (drawBy Tryz.prog pu pl_18) c (hret Tryz.prog [.tmp 6, .tmp 7] K) (hframe 66 args) PS) : HCall Tryz.prog 18 args PS K := by
  have hp : (match Tryz.f18.body with | some c => plansOk pu tb_18 pl_18 c | none => true) = true := by kernel_rfl
  rw [hc] at hp
  refine hcall_of_plans tb_18 pl_18 pu mixed Tryz.func18 hc hp ?_
  rw [Tryz.results18, Tryz.ntmps18]
  exact h
/-- (*orangery/hall.Hall).Free -/
def pl_19 (n : Nat) : Plan :=
  let _ := n; .done
def tb_19 (n : Nat) : List Row :=
  let _ := n; []
theorem enter_19 {c : Code} {args : List HV} {PS : PL} {K : HV → PL → Prop} (hc : Tryz.f19.body = some c) (h : hvc (hop Tryz.prog) (drawBy Tryz.prog pu pl_19) c (hret Tryz.prog [.tmp 2] K) (hframe 8 args) PS) : HCall Tryz.prog 19 args PS K := by
  have hp : (match Tryz.f19.body with | some c => plansOk pu tb_19 pl_19 c | none => true) = true := by kernel_rfl
  rw [hc] at hp
  refine hcall_of_plans tb_19 pl_19 pu mixed Tryz.func19 hc hp ?_
  rw [Tryz.results19, Tryz.ntmps19]
  exact h
/-- (*orangery/store.Store).Left -/
def pl_20 (n : Nat) : Plan :=
  match n with
  | 1 => .one 0 <| .one 1 <| .one 2 <| .one 3 <| .one 4 <| .one 5 <| .one 6 <| .one 7 <| .one 8 <| .one 9 <| .done
  | _ => .done
@[go_sem] theorem plan_20_1 : pl_20 1 = (.one 0 <| .one 1 <| .one 2 <| .one 3 <| .one 4 <| .one 5 <| .one 6 <| .one 7 <| .one 8 <| .one 9 <| .done) := id rfl
def tb_20 (n : Nat) : List Row :=
  match n with
  | 1 => [⟨8, 1, 0, 0⟩, ⟨16, 8, 1, 1⟩, ⟨32, 16, 2, 1⟩, ⟨64, 32, 4, 2⟩, ⟨128, 64, 8, 1⟩, ⟨256, 1, 0, 0⟩, ⟨512, 256, 32, 2⟩, ⟨1024, 512, 64, 1⟩, ⟨2048, 1152, 144, 1⟩, ⟨4, 2048, 511, 0⟩]
  | _ => []
theorem enter_20 {c : Code} {args : List HV} {PS : PL} {K : HV → PL → Prop} (hc : Tryz.f20.body = some c) (h : hvc (hop Tryz.prog) (drawBy Tryz.prog pu pl_20) c (hret Tryz.prog [.tmp 2] K) (hframe 12 args) PS) : HCall Tryz.prog 20 args PS K := by
  have hp : (match Tryz.f20.body with | some c => plansOk pu tb_20 pl_20 c | none => true) = true := by kernel_rfl
  rw [hc] at hp
  refine hcall_of_plans tb_20 pl_20 pu mixed Tryz.func20 hc hp ?_
  rw [Tryz.results20, Tryz.ntmps20]
  exact h
/-- (*orangery/hall.Hall).Born -/
def pl_21 (n : Nat) : Plan :=
  match n with
  | 1 => .one 0 <| .one 1 <| .one 2 <| .one 3 <| .one 4 <| .one 5 <| .one 6 <| .one 7 <| .one 8 <| .one 9 <| .one 10 <| .one 11 <| .one 12 <| .one 13 <| .one 14 <| .alt 15 [] (.one 16 <| .one 17 <| .done) <| .none
  | _ => .done
@[go_sem] theorem plan_21_1 : pl_21 1 = (.one 0 <| .one 1 <| .one 2 <| .one 3 <| .one 4 <| .one 5 <| .one 6 <| .one 7 <| .one 8 <| .one 9 <| .one 10 <| .one 11 <| .one 12 <| .one 13 <| .one 14 <| .alt 15 [] (.one 16 <| .one 17 <| .done) <| .none) := id rfl
def tb_21 (n : Nat) : List Row :=
  match n with
  | 1 => [⟨512, 1, 0, 0⟩, ⟨1024, 4, 0, 0⟩, ⟨2048, 1536, 3, 2⟩, ⟨4096, 2048, 4, 0⟩, ⟨8192, 4224, 8, 2⟩, ⟨16384, 12288, 24, 0⟩, ⟨32768, 20480, 40, 0⟩, ⟨65536, 32768, 96, 0⟩, ⟨131072, 65537, 128, 0⟩, ⟨262144, 196608, 384, 1⟩, ⟨524288, 327680, 640, 1⟩, ⟨1048576, 589824, 1152, 2⟩, ⟨2097152, 65538, 128, 0⟩, ⟨4194304, 65540, 128, 0⟩, ⟨8388608, 65664, 128, 2⟩, ⟨16777216, 15794176, 30848, 5⟩, ⟨33554432, 16842752, 32896, 0⟩, ⟨256, 33554432, 131071, 0⟩]
  | _ => []
theorem enter_21 {c : Code} {args : List HV} {PS : PL} {K : HV → PL → Prop} (hc : Tryz.f21.body = some c) (h : hvc (hop Tryz.prog) (drawBy Tryz.prog pu pl_21) c (hret Tryz.prog [.tmp 8] K) (hframe 26 args) PS) : HCall Tryz.prog 21 args PS K := by
  have hp : (match Tryz.f21.body with | some c => plansOk pu tb_21 pl_21 c | none => true) = true := by kernel_rfl
  rw [hc] at hp
  refine hcall_of_plans tb_21 pl_21 pu mixed Tryz.func21 hc hp ?_
  rw [Tryz.results21, Tryz.ntmps21]
  exact h
/-- (*orangery/hall.Hall).Look -/
def pl_22 (n : Nat) : Plan :=
  let _ := n; .done
def tb_22 (n : Nat) : List Row :=
  let _ := n; []
theorem enter_22 {c : Code} {args : List HV} {PS : PL} {K : HV → PL → Prop} (hc : Tryz.f22.body = some c) (h : hvc (hop Tryz.prog) (drawBy Tryz.prog pu pl_22) c (hret Tryz.prog [.cell 4 48, .tmp 5] K) (hframe 24 args) PS) : HCall Tryz.prog 22 args PS K := by
  have hp : (match Tryz.f22.body with | some c => plansOk pu tb_22 pl_22 c | none => true) = true := by kernel_rfl
  rw [hc] at hp
  refine hcall_of_plans tb_22 pl_22 pu mixed Tryz.func22 hc hp ?_
  rw [Tryz.results22, Tryz.ntmps22]
  exact h
/-- orangery/orangerylaw00.Leaf -/
def pl_23 (n : Nat) : Plan :=
  let _ := n; .done
def tb_23 (n : Nat) : List Row :=
  let _ := n; []
theorem enter_23 {c : Code} {args : List HV} {PS : PL} {K : HV → PL → Prop} (hc : Tryz.f23.body = some c) (h : hvc (hop Tryz.prog) (drawBy Tryz.prog pu pl_23) c (hret Tryz.prog [.cell 2 48] K) (hframe 6 args) PS) : HCall Tryz.prog 23 args PS K := by
  have hp : (match Tryz.f23.body with | some c => plansOk pu tb_23 pl_23 c | none => true) = true := by kernel_rfl
  rw [hc] at hp
  refine hcall_of_plans tb_23 pl_23 pu mixed Tryz.func23 hc hp ?_
  rw [Tryz.results23, Tryz.ntmps23]
  exact h
/-- (*orangery/hall.Hall).Set -/
def pl_24 (n : Nat) : Plan :=
  match n with
  | 2 => .one 0 <| .one 1 <| .one 2 <| .one 3 <| .one 4 <| .one 5 <| .one 6 <| .one 7 <| .one 8 <| .one 9 <| .one 10 <| .one 11 <| .one 12 <| .one 13 <| .one 14 <| .one 15 <| .one 16 <| .one 17 <| .one 18 <| .alt 19 [] (.one 20 <| .one 21 <| .done) <| .none
  | _ => .done
@[go_sem] theorem plan_24_2 : pl_24 2 = (.one 0 <| .one 1 <| .one 2 <| .one 3 <| .one 4 <| .one 5 <| .one 6 <| .one 7 <| .one 8 <| .one 9 <| .one 10 <| .one 11 <| .one 12 <| .one 13 <| .one 14 <| .one 15 <| .one 16 <| .one 17 <| .one 18 <| .alt 19 [] (.one 20 <| .one 21 <| .done) <| .none) := id rfl
def tb_24 (n : Nat) : List Row :=
  match n with
  | 2 => [⟨16384, 512, 0, 0⟩, ⟨32768, 16384, 1, 1⟩, ⟨65536, 32768, 2, 0⟩, ⟨131072, 66048, 4, 0⟩, ⟨262144, 196608, 12, 2⟩, ⟨524288, 65538, 4, 0⟩, ⟨1048576, 851968, 52, 1⟩, ⟨2097152, 1114112, 68, 0⟩, ⟨4194304, 2097152, 144, 0⟩, ⟨8388608, 4194432, 256, 2⟩, ⟨16777216, 12582912, 768, 0⟩, ⟨33554432, 20971520, 1280, 0⟩, ⟨67108864, 33554432, 3072, 0⟩, ⟨134217728, 67108865, 4096, 0⟩, ⟨268435456, 201326592, 12288, 1⟩, ⟨536870912, 335544320, 20480, 1⟩, ⟨1073741824, 603979776, 36864, 2⟩, ⟨2147483648, 67108868, 4096, 0⟩, ⟨4294967296, 67108992, 4096, 2⟩, ⟨8589934592, 7583301632, 462848, 5⟩, ⟨17179869184, 8657043456, 528384, 0⟩, ⟨256, 17179869184, 2097151, 0⟩]
  | _ => []
theorem enter_24 {c : Code} {args : List HV} {PS : PL} {K : HV → PL → Prop} (hc : Tryz.f24.body = some c) (h : hvc (hop Tryz.prog) (drawBy Tryz.prog pu pl_24) c (hret Tryz.prog [.tmp 8] K) (hframe 35 args) PS) : HCall Tryz.prog 24 args PS K := by
  have hp : (match Tryz.f24.body with | some c => plansOk pu tb_24 pl_24 c | none => true) = true := by kernel_rfl
  rw [hc] at hp
  refine hcall_of_plans tb_24 pl_24 pu mixed Tryz.func24 hc hp ?_
  rw [Tryz.results24, Tryz.ntmps24]
  exact h
/-- (*orangery/hall.Hall).Evict -/
def pl_25 (n : Nat) : Plan :=
  let _ := n; .done
def tb_25 (n : Nat) : List Row :=
  let _ := n; []
theorem enter_25 {c : Code} {args : List HV} {PS : PL} {K : HV → PL → Prop} (hc : Tryz.f25.body = some c) (h : hvc (hop Tryz.prog) (drawBy Tryz.prog pu pl_25) c (hret Tryz.prog [.tmp 2, .tmp 3] K) (hframe 25 args) PS) : HCall Tryz.prog 25 args PS K := by
  have hp : (match Tryz.f25.body with | some c => plansOk pu tb_25 pl_25 c | none => true) = true := by kernel_rfl
  rw [hc] at hp
  refine hcall_of_plans tb_25 pl_25 pu mixed Tryz.func25 hc hp ?_
  rw [Tryz.results25, Tryz.ntmps25]
  exact h
/-- orangery/orangeryref09.Same -/
def pl_26 (n : Nat) : Plan :=
  let _ := n; .done
def tb_26 (n : Nat) : List Row :=
  let _ := n; []
theorem enter_26 {c : Code} {args : List HV} {PS : PL} {K : HV → PL → Prop} (hc : Tryz.f26.body = some c) (h : hvc (hop Tryz.prog) (drawBy Tryz.prog pu pl_26) c (hret Tryz.prog [.tmp 4] K) (hframe 38 args) PS) : HCall Tryz.prog 26 args PS K := by
  have hp : (match Tryz.f26.body with | some c => plansOk pu tb_26 pl_26 c | none => true) = true := by kernel_rfl
  rw [hc] at hp
  refine hcall_of_plans tb_26 pl_26 pu mixed Tryz.func26 hc hp ?_
  rw [Tryz.results26, Tryz.ntmps26]
  exact h
/-- orangery/orangeryref17.New -/
def pl_27 (n : Nat) : Plan :=
  match n with
  | 14 => .one 0 <| .one 1 <| .one 2 <| .one 3 <| .one 4 <| .alt 5 [4, 3, 2] (.one 6 <| .alt 7 [] (.one 8 <| .one 9 <| .alt 10 [] (.done) <| .none) <| .none) <| .none
  | _ => .done
@[go_sem] theorem plan_27_14 : pl_27 14 = (.one 0 <| .one 1 <| .one 2 <| .one 3 <| .one 4 <| .alt 5 [4, 3, 2] (.one 6 <| .alt 7 [] (.one 8 <| .one 9 <| .alt 10 [] (.done) <| .none) <| .none) <| .none) := id rfl
def tb_27 (n : Nat) : List Row :=
  match n with
  | 14 => [⟨562949953421312, 1024, 0, 0⟩, ⟨1125899906842624, 1024, 0, 0⟩, ⟨2251799813685248, 1125899906842624, 2, 1⟩, ⟨4503599627370496, 2251799813685248, 4, 1⟩, ⟨9007199254740992, 4503599627370496, 8, 2⟩, ⟨18014398509481984, 0, 0, 5⟩, ⟨36028797018963968, 18014398509481984, 32, 0⟩, ⟨72057594037927936, 45035996273704960, 112, 5⟩, ⟨144115188075855872, 562949953421312, 255, 1⟩, ⟨288230376151711744, 144115188075855872, 511, 1⟩, ⟨0, 360287970189639680, 767, 4⟩]
  | _ => []
theorem enter_27 {c : Code} {args : List HV} {PS : PL} {K : HV → PL → Prop} (hc : Tryz.f27.body = some c) (h : hvc (hop Tryz.prog) (drawBy Tryz.prog pu pl_27) c (hret Tryz.prog [.tmp 4, .tmp 5] K) (hframe 60 args) PS) : HCall Tryz.prog 27 args PS K := by
  have hp : (match Tryz.f27.body with | some c => plansOk pu tb_27 pl_27 c | none => true) = true := by kernel_rfl
  rw [hc] at hp
  refine hcall_of_plans tb_27 pl_27 pu mixed Tryz.func27 hc hp ?_
  rw [Tryz.results27, Tryz.ntmps27]
  exact h
/-- orangery/orangerylaw17.does -/
def pl_28 (n : Nat) : Plan :=
  match n with
  | 2 => .one 0 <| .one 1 <| .one 2 <| .one 3 <| .one 4 <| .one 6 <| .one 7 <| .one 8 <| .one 9 <| .one 10 <| .alt 5 [10, 9, 8, 7] (.alt 11 [] (.one 12 <| .one 13 <| .done) <| .none) <| .none
  | 8 => .one 0 <| .one 1 <| .one 2 <| .one 3 <| .one 4 <| .one 5 <| .one 6 <| .one 7 <| .one 8 <| .one 10 <| .one 11 <| .one 12 <| .one 13 <| .one 14 <| .one 15 <| .one 16 <| .one 17 <| .one 18 <| .alt 9 [18, 17, 16, 15, 14, 13, 12, 11] (.alt 19 [] (.one 20 <| .one 21 <| .done) <| .none) <| .none
  | 10 => .one 0 <| .one 1 <| .one 2 <| .one 3 <| .one 4 <| .one 6 <| .one 7 <| .one 8 <| .one 9 <| .one 10 <| .alt 5 [10, 9, 8, 7] (.alt 11 [] (.one 12 <| .one 13 <| .done) <| .none) <| .none
  | 12 => .one 0 <| .one 1 <| .one 2 <| .one 3 <| .one 4 <| .one 5 <| .one 7 <| .one 8 <| .one 9 <| .one 10 <| .one 11 <| .one 12 <| .alt 6 [12, 11, 10, 9, 8] (.alt 13 [] (.one 14 <| .one 15 <| .done) <| .none) <| .none
  | 18 => .one 0 <| .one 1 <| .one 2 <| .one 3 <| .one 4 <| .one 5 <| .one 6 <| .one 7 <| .one 9 <| .one 10 <| .one 11 <| .one 12 <| .one 13 <| .one 14 <| .one 15 <| .alt 8 [15, 14, 13, 12, 11, 10] (.one 16 <| .alt 17 [] (.one 18 <| .one 19 <| .done) <| .none) <| .none
  | 20 => .one 0 <| .one 1 <| .one 2 <| .one 3 <| .one 4 <| .one 5 <| .one 6 <| .one 7 <| .one 9 <| .one 10 <| .one 11 <| .one 12 <| .one 13 <| .one 14 <| .one 15 <| .alt 8 [15, 14, 13, 12, 11, 10] (.one 16 <| .alt 17 [] (.one 18 <| .one 19 <| .done) <| .none) <| .none
  | _ => .done
@[go_sem] theorem plan_28_2 : pl_28 2 = (.one 0 <| .one 1 <| .one 2 <| .one 3 <| .one 4 <| .one 6 <| .one 7 <| .one 8 <| .one 9 <| .one 10 <| .alt 5 [10, 9, 8, 7] (.alt 11 [] (.one 12 <| .one 13 <| .done) <| .none) <| .none) := id rfl
@[go_sem] theorem plan_28_8 : pl_28 8 = (.one 0 <| .one 1 <| .one 2 <| .one 3 <| .one 4 <| .one 5 <| .one 6 <| .one 7 <| .one 8 <| .one 10 <| .one 11 <| .one 12 <| .one 13 <| .one 14 <| .one 15 <| .one 16 <| .one 17 <| .one 18 <| .alt 9 [18, 17, 16, 15, 14, 13, 12, 11] (.alt 19 [] (.one 20 <| .one 21 <| .done) <| .none) <| .none) := id rfl
@[go_sem] theorem plan_28_10 : pl_28 10 = (.one 0 <| .one 1 <| .one 2 <| .one 3 <| .one 4 <| .one 6 <| .one 7 <| .one 8 <| .one 9 <| .one 10 <| .alt 5 [10, 9, 8, 7] (.alt 11 [] (.one 12 <| .one 13 <| .done) <| .none) <| .none) := id rfl
@[go_sem] theorem plan_28_12 : pl_28 12 = (.one 0 <| .one 1 <| .one 2 <| .one 3 <| .one 4 <| .one 5 <| .one 7 <| .one 8 <| .one 9 <| .one 10 <| .one 11 <| .one 12 <| .alt 6 [12, 11, 10, 9, 8] (.alt 13 [] (.one 14 <| .one 15 <| .done) <| .none) <| .none) := id rfl
@[go_sem] theorem plan_28_18 : pl_28 18 = (.one 0 <| .one 1 <| .one 2 <| .one 3 <| .one 4 <| .one 5 <| .one 6 <| .one 7 <| .one 9 <| .one 10 <| .one 11 <| .one 12 <| .one 13 <| .one 14 <| .one 15 <| .alt 8 [15, 14, 13, 12, 11, 10] (.one 16 <| .alt 17 [] (.one 18 <| .one 19 <| .done) <| .none) <| .none) := id rfl
@[go_sem] theorem plan_28_20 : pl_28 20 = (.one 0 <| .one 1 <| .one 2 <| .one 3 <| .one 4 <| .one 5 <| .one 6 <| .one 7 <| .one 9 <| .one 10 <| .one 11 <| .one 12 <| .one 13 <| .one 14 <| .one 15 <| .alt 8 [15, 14, 13, 12, 11, 10] (.one 16 <| .alt 17 [] (.one 18 <| .one 19 <| .done) <| .none) <| .none) := id rfl
def tb_28 (n : Nat) : List Row :=
  match n with
  | 2 => [⟨8388608, 1, 0, 0⟩, ⟨16777216, 32, 0, 1⟩, ⟨33554432, 16777216, 2, 2⟩, ⟨67108864, 32, 0, 1⟩, ⟨134217728, 67108864, 8, 2⟩, ⟨268435456, 176160768, 21, 5⟩, ⟨536870912, 2, 0, 0⟩, ⟨1073741824, 32, 0, 1⟩, ⟨2147483648, 1073741824, 128, 2⟩, ⟨4294967296, 32, 0, 1⟩, ⟨8589934592, 4294967296, 512, 2⟩, ⟨17179869184, 11274289152, 1376, 5⟩, ⟨34359738368, 17448304640, 2080, 1⟩, ⟨64, 34359738368, 8191, 0⟩]
  | 8 => [⟨1180591620717411303424, 1, 0, 0⟩, ⟨2361183241434822606848, 32, 0, 1⟩, ⟨4722366482869645213696, 2361183241434822606848, 2, 2⟩, ⟨9444732965739290427392, 32, 0, 1⟩, ⟨18889465931478580854784, 9444732965739290427392, 8, 2⟩, ⟨37778931862957161709568, 32, 0, 1⟩, ⟨75557863725914323419136, 37778931862957161709568, 32, 2⟩, ⟨151115727451828646838272, 75557863725914323419136, 64, 1⟩, ⟨302231454903657293676544, 151115727451828646838272, 128, 1⟩, ⟨604462909807314587353088, 327023878938722931048448, 277, 5⟩, ⟨1208925819614629174706176, 2, 0, 0⟩, ⟨2417851639229258349412352, 32, 0, 1⟩, ⟨4835703278458516698824704, 2417851639229258349412352, 2048, 2⟩, ⟨9671406556917033397649408, 32, 0, 1⟩, ⟨19342813113834066795298816, 9671406556917033397649408, 8192, 2⟩, ⟨38685626227668133590597632, 32, 0, 1⟩, ⟨77371252455336267181195264, 38685626227668133590597632, 32768, 2⟩, ⟨154742504910672534362390528, 77371252455336267181195264, 65536, 1⟩, ⟨309485009821345068724781056, 154742504910672534362390528, 131072, 1⟩, ⟨618970019642690137449562112, 334872452033252281393610752, 284160, 5⟩, ⟨1237940039285380274899124224, 619574482552497452036915200, 524800, 1⟩, ⟨64, 1237940039285380274899124224, 2097151, 0⟩]
  | 10 => [⟨39614081257132168796771975168, 1, 0, 0⟩, ⟨79228162514264337593543950336, 32, 0, 1⟩, ⟨158456325028528675187087900672, 79228162514264337593543950336, 2, 2⟩, ⟨316912650057057350374175801344, 32, 0, 1⟩, ⟨633825300114114700748351602688, 316912650057057350374175801344, 8, 2⟩, ⟨1267650600228229401496703205376, 831895706399775544732211478528, 21, 5⟩, ⟨2535301200456458802993406410752, 2, 0, 0⟩, ⟨5070602400912917605986812821504, 32, 0, 1⟩, ⟨10141204801825835211973625643008, 5070602400912917605986812821504, 128, 2⟩, ⟨20282409603651670423947251286016, 32, 0, 1⟩, ⟨40564819207303340847894502572032, 20282409603651670423947251286016, 512, 2⟩, ⟨81129638414606681695789005144064, 53241325209585634862861534625792, 1376, 5⟩, ⟨162259276829213363391578010288128, 82397289014834911097285708349440, 2080, 2⟩, ⟨64, 162259276829213363391578010288128, 8191, 0⟩]
  | 12 => [⟨5192296858534827628530496329220096, 1, 0, 0⟩, ⟨10384593717069655257060992658440192, 5192296858534827628530496329220096, 1, 1⟩, ⟨20769187434139310514121985316880384, 10384593717069655257060992658440192, 2, 1⟩, ⟨41538374868278621028243970633760768, 20769187434139310514121985316880384, 4, 2⟩, ⟨83076749736557242056487941267521536, 32, 0, 1⟩, ⟨166153499473114484112975882535043072, 83076749736557242056487941267521536, 16, 2⟩, ⟨332306998946228968225951765070086144, 207691874341393105141219853168803840, 40, 5⟩, ⟨664613997892457936451903530140172288, 2, 0, 0⟩, ⟨1329227995784915872903807060280344576, 664613997892457936451903530140172288, 128, 1⟩, ⟨2658455991569831745807614120560689152, 1329227995784915872903807060280344576, 256, 1⟩, ⟨5316911983139663491615228241121378304, 2658455991569831745807614120560689152, 512, 2⟩, ⟨10633823966279326983230456482242756608, 32, 0, 1⟩, ⟨21267647932558653966460912964485513216, 10633823966279326983230456482242756608, 2048, 2⟩, ⟨42535295865117307932921825928971026432, 26584559915698317458076141205606891520, 5184, 5⟩, ⟨85070591730234615865843651857942052864, 42867602864063536901147777694041112576, 8256, 1⟩, ⟨64, 85070591730234615865843651857942052864, 32767, 0⟩]
  | 18 => [⟨2923003274661805836407369665432566039311865085952, 1, 0, 0⟩, ⟨5846006549323611672814739330865132078623730171904, 32, 0, 1⟩, ⟨11692013098647223345629478661730264157247460343808, 5846006549323611672814739330865132078623730171904, 2, 2⟩, ⟨23384026197294446691258957323460528314494920687616, 32, 0, 1⟩, ⟨46768052394588893382517914646921056628989841375232, 23384026197294446691258957323460528314494920687616, 8, 2⟩, ⟨93536104789177786765035829293842113257979682750464, 32, 0, 1⟩, ⟨187072209578355573530071658587684226515959365500928, 93536104789177786765035829293842113257979682750464, 32, 2⟩, ⟨374144419156711147060143317175368453031918731001856, 187072209578355573530071658587684226515959365500928, 64, 0⟩, ⟨748288838313422294120286634350736906063837462003712, 435527487924609069624698080149452339857467897806848, 149, 5⟩, ⟨1496577676626844588240573268701473812127674924007424, 2, 0, 0⟩, ⟨2993155353253689176481146537402947624255349848014848, 32, 0, 1⟩, ⟨5986310706507378352962293074805895248510699696029696, 2993155353253689176481146537402947624255349848014848, 1024, 2⟩, ⟨11972621413014756705924586149611790497021399392059392, 32, 0, 1⟩, ⟨23945242826029513411849172299223580994042798784118784, 11972621413014756705924586149611790497021399392059392, 4096, 2⟩, ⟨47890485652059026823698344598447161988085597568237568, 32, 0, 1⟩, ⟨95780971304118053647396689196894323976171195136475136, 47890485652059026823698344598447161988085597568237568, 16384, 2⟩, ⟨191561942608236107294793378393788647952342390272950272, 95780971304118053647396689196894323976171195136475136, 33024, 0⟩, ⟨383123885216472214589586756787577295904684780545900544, 222990073817399843647845417036519598007023563677106176, 76288, 5⟩, ⟨766247770432944429179173513575154591809369561091801088, 383872174054785636883707043421928032810748618007904256, 131328, 1⟩, ⟨64, 766247770432944429179173513575154591809369561091801088, 524287, 0⟩]
  | 20 => [⟨24519928653854221733733552434404946937899825954937634816, 1, 0, 0⟩, ⟨49039857307708443467467104868809893875799651909875269632, 32, 0, 1⟩, ⟨98079714615416886934934209737619787751599303819750539264, 49039857307708443467467104868809893875799651909875269632, 2, 2⟩, ⟨196159429230833773869868419475239575503198607639501078528, 32, 0, 1⟩, ⟨392318858461667547739736838950479151006397215279002157056, 196159429230833773869868419475239575503198607639501078528, 8, 2⟩, ⟨784637716923335095479473677900958302012794430558004314112, 32, 0, 1⟩, ⟨1569275433846670190958947355801916604025588861116008628224, 784637716923335095479473677900958302012794430558004314112, 32, 2⟩, ⟨3138550867693340381917894711603833208051177722232017256448, 1569275433846670190958947355801916604025588861116008628224, 64, 0⟩, ⟨6277101735386680763835789423207666416102355444464034512896, 3653469369424279038326299312726337093747074067285707587584, 149, 5⟩, ⟨12554203470773361527671578846415332832204710888928069025792, 2, 0, 0⟩, ⟨25108406941546723055343157692830665664409421777856138051584, 32, 0, 1⟩, ⟨50216813883093446110686315385661331328818843555712276103168, 25108406941546723055343157692830665664409421777856138051584, 1024, 2⟩, ⟨100433627766186892221372630771322662657637687111424552206336, 32, 0, 1⟩, ⟨200867255532373784442745261542645325315275374222849104412672, 100433627766186892221372630771322662657637687111424552206336, 4096, 2⟩, ⟨401734511064747568885490523085290650630550748445698208825344, 32, 0, 1⟩, ⟨803469022129495137770981046170581301261101496891396417650688, 401734511064747568885490523085290650630550748445698208825344, 16384, 2⟩, ⟨1606938044258990275541962092341162602522202993782792835301376, 803469022129495137770981046170581301261101496891396417650688, 33024, 0⟩, ⟨3213876088517980551083924184682325205044405987565585670602752, 1870576317145230867623065248115884591998501922450282284843008, 76288, 5⟩, ⟨6427752177035961102167848369364650410088811975131171341205504, 3220153190253367231847759974105532871460508343010049705115648, 131328, 1⟩, ⟨64, 6427752177035961102167848369364650410088811975131171341205504, 524287, 0⟩]
  | _ => []
theorem enter_28 {c : Code} {args : List HV} {PS : PL} {K : HV → PL → Prop} (hc : Tryz.f28.body = some c) (h : hvc (hop Tryz.prog) (drawBy Tryz.prog pu pl_28) c (hret Tryz.prog [.tmp 6] K) (hframe 221 args) PS) : HCall Tryz.prog 28 args PS K := by
  have hp : (match Tryz.f28.body with | some c => plansOk pu tb_28 pl_28 c | none => true) = true := by kernel_rfl
  rw [hc] at hp
  refine hcall_of_plans tb_28 pl_28 pu mixed Tryz.func28 hc hp ?_
  rw [Tryz.results28, Tryz.ntmps28]
  exact h
/-- orangery/orangerylaw17.few -/
def pl_29 (n : Nat) : Plan :=
  match n with
  | 2 => .one 0 <| .one 1 <| .one 2 <| .one 3 <| .one 4 <| .one 5 <| .one 6 <| .alt 7 [] (.one 8 <| .alt 9 [] (.done) <| .none) <| .none
  | _ => .done
@[go_sem] theorem plan_29_2 : pl_29 2 = (.one 0 <| .one 1 <| .one 2 <| .one 3 <| .one 4 <| .one 5 <| .one 6 <| .alt 7 [] (.one 8 <| .alt 9 [] (.done) <| .none) <| .none) := id rfl
def tb_29 (n : Nat) : List Row :=
  match n with
  | 2 => [⟨256, 4, 0, 1⟩, ⟨512, 256, 1, 2⟩, ⟨1024, 512, 2, 0⟩, ⟨2048, 4, 0, 1⟩, ⟨4096, 2048, 8, 2⟩, ⟨8192, 4096, 20, 0⟩, ⟨16384, 4, 31, 1⟩, ⟨0, 17408, 127, 4⟩, ⟨32768, 4, 255, 1⟩, ⟨0, 40960, 511, 4⟩]
  | _ => []
theorem enter_29 {c : Code} {args : List HV} {PS : PL} {K : HV → PL → Prop} (hc : Tryz.f29.body = some c) (h : hvc (hop Tryz.prog) (drawBy Tryz.prog pu pl_29) c (hret Tryz.prog [.cell 4 63] K) (hframe 25 args) PS) : HCall Tryz.prog 29 args PS K := by
  have hp : (match Tryz.f29.body with | some c => plansOk pu tb_29 pl_29 c | none => true) = true := by kernel_rfl
  rw [hc] at hp
  refine hcall_of_plans tb_29 pl_29 pu mixed Tryz.func29 hc hp ?_
  rw [Tryz.results29, Tryz.ntmps29]
  exact h
/-- orangery/orangerylaw17.Same -/
def pl_30 (n : Nat) : Plan :=
  match n with
  | 1 => .one 0 <| .one 1 <| .one 2 <| .one 3 <| .one 4 <| .one 5 <| .one 6 <| .one 7 <| .one 8 <| .one 9 <| .one 10 <| .one 11 <| .one 12 <| .one 13 <| .one 14 <| .one 15 <| .one 16 <| .one 17 <| .one 18 <| .one 19 <| .one 20 <| .one 21 <| .one 22 <| .one 23 <| .one 24 <| .one 25 <| .one 26 <| .one 27 <| .one 28 <| .one 29 <| .one 30 <| .one 31 <| .one 32 <| .one 33 <| .one 34 <| .one 35 <| .one 36 <| .one 37 <| .one 38 <| .one 39 <| .one 40 <| .one 41 <| .one 42 <| .one 43 <| .one 44 <| .one 45 <| .one 46 <| .one 47 <| .one 48 <| .one 49 <| .one 50 <| .one 51 <| .one 52 <| .one 53 <| .one 54 <| .one 55 <| .one 56 <| .one 57 <| .one 58 <| .one 59 <| .one 60 <| .one 61 <| .one 62 <| .one 63 <| .done
  | _ => .done
@[go_sem] theorem plan_30_1 : pl_30 1 = (.one 0 <| .one 1 <| .one 2 <| .one 3 <| .one 4 <| .one 5 <| .one 6 <| .one 7 <| .one 8 <| .one 9 <| .one 10 <| .one 11 <| .one 12 <| .one 13 <| .one 14 <| .one 15 <| .one 16 <| .one 17 <| .one 18 <| .one 19 <| .one 20 <| .one 21 <| .one 22 <| .one 23 <| .one 24 <| .one 25 <| .one 26 <| .one 27 <| .one 28 <| .one 29 <| .one 30 <| .one 31 <| .one 32 <| .one 33 <| .one 34 <| .one 35 <| .one 36 <| .one 37 <| .one 38 <| .one 39 <| .one 40 <| .one 41 <| .one 42 <| .one 43 <| .one 44 <| .one 45 <| .one 46 <| .one 47 <| .one 48 <| .one 49 <| .one 50 <| .one 51 <| .one 52 <| .one 53 <| .one 54 <| .one 55 <| .one 56 <| .one 57 <| .one 58 <| .one 59 <| .one 60 <| .one 61 <| .one 62 <| .one 63 <| .done) := id rfl
def tb_30 (n : Nat) : List Row :=
  match n with
  | 1 => [⟨64, 1, 0, 0⟩, ⟨128, 64, 1, 2⟩, ⟨256, 2, 0, 0⟩, ⟨512, 256, 6, 2⟩, ⟨1024, 640, 10, 2⟩, ⟨2048, 1024, 16, 0⟩, ⟨4096, 2048, 48, 0⟩, ⟨8192, 4097, 64, 0⟩, ⟨16384, 12288, 192, 1⟩, ⟨32768, 20480, 320, 1⟩, ⟨65536, 36864, 576, 2⟩, ⟨131072, 69632, 1088, 2⟩, ⟨262144, 4098, 64, 0⟩, ⟨524288, 266240, 4160, 1⟩, ⟨1048576, 528384, 8256, 1⟩, ⟨2097152, 1052672, 16448, 2⟩, ⟨4194304, 2101248, 34880, 2⟩, ⟨8388608, 4329472, 67648, 2⟩, ⟨16777216, 8392704, 131136, 0⟩, ⟨33554432, 16781312, 262208, 0⟩, ⟨67108864, 33554432, 655360, 0⟩, ⟨134217728, 67108865, 1048576, 0⟩, ⟨268435456, 201326592, 3145728, 2⟩, ⟨536870912, 67108866, 1048576, 0⟩, ⟨1073741824, 603979776, 9437184, 1⟩, ⟨2147483648, 1140850688, 17825792, 1⟩, ⟨4294967296, 2214592512, 34603008, 2⟩, ⟨8589934592, 4362076160, 72351744, 2⟩, ⟨17179869184, 8925478912, 139460608, 1⟩, ⟨34359738368, 17246978048, 269484032, 0⟩, ⟨68719476736, 34359738368, 671088640, 0⟩, ⟨137438953472, 68719476737, 1073741824, 0⟩, ⟨274877906944, 206158430208, 3221225472, 1⟩, ⟨549755813888, 343597383680, 5368709120, 1⟩, ⟨1099511627776, 618475290624, 9663676416, 2⟩, ⟨2199023255552, 1168231104512, 18253611008, 2⟩, ⟨4398046511104, 68719476738, 1073741824, 0⟩, ⟨8796093022208, 4466765987840, 69793218560, 1⟩, ⟨17592186044416, 8864812498944, 138512695296, 1⟩, ⟨35184372088832, 17660905521152, 275951648768, 2⟩, ⟨70368744177664, 35253091565568, 585189294080, 2⟩, ⟨140737488355328, 72636486909952, 1134945107968, 2⟩, ⟨281474976710656, 140806207832064, 2200096997376, 0⟩, ⟨562949953421312, 281543696187392, 4399120252928, 0⟩, ⟨1125899906842624, 562949953421312, 10995116277760, 0⟩, ⟨2251799813685248, 1125899906842625, 17592186044416, 0⟩, ⟨4503599627370496, 3377699720527872, 52776558133248, 1⟩, ⟨9007199254740992, 5629499534213120, 87960930222080, 1⟩, ⟨18014398509481984, 10133099161583616, 158329674399744, 2⟩, ⟨36028797018963968, 19140298416324608, 299067162755072, 2⟩, ⟨72057594037927936, 1125899906842626, 17592186044416, 0⟩, ⟨144115188075855872, 73183493944770560, 1143492092887040, 1⟩, ⟨288230376151711744, 145241087982698496, 2269391999729664, 1⟩, ⟨576460752303423488, 289356276058554368, 4521191813414912, 2⟩, ⟨1152921504606846976, 577586652210266112, 9587741394206720, 2⟩, ⟨2305843009213693952, 1190076201532653568, 18594940648947712, 1⟩, ⟨4611686018427387904, 2306968909120536576, 36046389205008384, 0⟩, ⟨9223372036854775808, 4611686018427387904, 90071992547409920, 0⟩, ⟨18446744073709551616, 9223372036854775809, 144115188075855872, 0⟩, ⟨36893488147419103232, 27670116110564327424, 432345564227567616, 2⟩, ⟨73786976294838206464, 9223372036854775810, 144115188075855872, 0⟩, ⟨147573952589676412928, 83010348331692982272, 1873497444986126336, 2⟩, ⟨295147905179352825856, 193690812773950291968, 3026418949592973312, 1⟩, ⟨590295810358705651712, 304371277216207601664, 4755801206503243776, 0⟩]
  | _ => []
theorem enter_30 {c : Code} {args : List HV} {PS : PL} {K : HV → PL → Prop} (hc : Tryz.f30.body = some c) (h : hvc (hop Tryz.prog) (drawBy Tryz.prog pu pl_30) c (hret Tryz.prog [.tmp 4] K) (hframe 81 args) PS) : HCall Tryz.prog 30 args PS K := by
  have hp : (match Tryz.f30.body with | some c => plansOk pu tb_30 pl_30 c | none => true) = true := by kernel_rfl
  rw [hc] at hp
  refine hcall_of_plans tb_30 pl_30 pu mixed Tryz.func30 hc hp ?_
  rw [Tryz.results30, Tryz.ntmps30]
  exact h
/-- orangery/orangerylaw17.Looks -/
def pl_31 (n : Nat) : Plan :=
  let _ := n; .done
def tb_31 (n : Nat) : List Row :=
  let _ := n; []
theorem enter_31 {c : Code} {args : List HV} {PS : PL} {K : HV → PL → Prop} (hc : Tryz.f31.body = some c) (h : hvc (hop Tryz.prog) (drawBy Tryz.prog pu pl_31) c (hret Tryz.prog [.tmp 6] K) (hframe 38 args) PS) : HCall Tryz.prog 31 args PS K := by
  have hp : (match Tryz.f31.body with | some c => plansOk pu tb_31 pl_31 c | none => true) = true := by kernel_rfl
  rw [hc] at hp
  refine hcall_of_plans tb_31 pl_31 pu mixed Tryz.func31 hc hp ?_
  rw [Tryz.results31, Tryz.ntmps31]
  exact h
/-- (*orangery/cache.Cache).Node -/
def pl_32 (n : Nat) : Plan :=
  let _ := n; .done
def tb_32 (n : Nat) : List Row :=
  let _ := n; []
theorem enter_32 {c : Code} {args : List HV} {PS : PL} {K : HV → PL → Prop} (hc : Tryz.f32.body = some c) (h : hvc (hop Tryz.prog) (drawBy Tryz.prog pu pl_32) c (hret Tryz.prog [.cell 4 48, .tmp 5] K) (hframe 18 args) PS) : HCall Tryz.prog 32 args PS K := by
  have hp : (match Tryz.f32.body with | some c => plansOk pu tb_32 pl_32 c | none => true) = true := by kernel_rfl
  rw [hc] at hp
  refine hcall_of_plans tb_32 pl_32 pu mixed Tryz.func32 hc hp ?_
  rw [Tryz.results32, Tryz.ntmps32]
  exact h
/-- (*orangery/orangeryref16.Cache).Node -/
def pl_33 (n : Nat) : Plan :=
  let _ := n; .done
def tb_33 (n : Nat) : List Row :=
  let _ := n; []
theorem enter_33 {c : Code} {args : List HV} {PS : PL} {K : HV → PL → Prop} (hc : Tryz.f33.body = some c) (h : hvc (hop Tryz.prog) (drawBy Tryz.prog pu pl_33) c (hret Tryz.prog [.cell 4 48, .tmp 5] K) (hframe 21 args) PS) : HCall Tryz.prog 33 args PS K := by
  have hp : (match Tryz.f33.body with | some c => plansOk pu tb_33 pl_33 c | none => true) = true := by kernel_rfl
  rw [hc] at hp
  refine hcall_of_plans tb_33 pl_33 pu mixed Tryz.func33 hc hp ?_
  rw [Tryz.results33, Tryz.ntmps33]
  exact h
/-- orangery/store.New -/
def pl_34 (n : Nat) : Plan :=
  match n with
  | 3 => .one 0 <| .one 2 <| .alt 1 [] (.alt 3 [] (.one 4 <| .alt 5 [] (.one 6 <| .one 7 <| .done) <| .none) <| .none) <| .alt 3 [] (.alt 1 [] (.one 4 <| .alt 5 [] (.one 6 <| .one 7 <| .done) <| .none) <| .none) <| .none
  | _ => .done
@[go_sem] theorem plan_34_3 : pl_34 3 = (.one 0 <| .one 2 <| .alt 1 [] (.alt 3 [] (.one 4 <| .alt 5 [] (.one 6 <| .one 7 <| .done) <| .none) <| .none) <| .alt 3 [] (.alt 1 [] (.one 4 <| .alt 5 [] (.one 6 <| .one 7 <| .done) <| .none) <| .none) <| .none) := id rfl
def tb_34 (n : Nat) : List Row :=
  match n with
  | 3 => [⟨1024, 1, 0, 0⟩, ⟨2048, 1024, 1, 3⟩, ⟨4096, 1, 0, 0⟩, ⟨8192, 4096, 4, 3⟩, ⟨16384, 10240, 10, 0⟩, ⟨32768, 16384, 16, 3⟩, ⟨4, 32768, 63, 0⟩, ⟨8, 0, 127, 0⟩]
  | _ => []
theorem enter_34 {c : Code} {args : List HV} {PS : PL} {K : HV → PL → Prop} (hc : Tryz.f34.body = some c) (h : hvc (hop Tryz.prog) (drawBy Tryz.prog pu pl_34) c (hret Tryz.prog [.tmp 2, .tmp 3] K) (hframe 16 args) PS) : HCall Tryz.prog 34 args PS K := by
  have hp : (match Tryz.f34.body with | some c => plansOk pu tb_34 pl_34 c | none => true) = true := by kernel_rfl
  rw [hc] at hp
  refine hcall_of_plans tb_34 pl_34 pu mixed Tryz.func34 hc hp ?_
  rw [Tryz.results34, Tryz.ntmps34]
  exact h
/-- orangery/cache.New -/
def pl_35 (n : Nat) : Plan :=
  match n with
  | 6 => .one 0 <| .one 1 <| .one 2 <| .one 3 <| .one 4 <| .one 5 <| .one 6 <| .alt 7 [] (.one 8 <| .one 9 <| .alt 10 [] (.done) <| .none) <| .none
  | _ => .done
@[go_sem] theorem plan_35_6 : pl_35 6 = (.one 0 <| .one 1 <| .one 2 <| .one 3 <| .one 4 <| .one 5 <| .one 6 <| .alt 7 [] (.one 8 <| .one 9 <| .alt 10 [] (.done) <| .none) <| .none) := id rfl
def tb_35 (n : Nat) : List Row :=
  match n with
  | 6 => [⟨262144, 16, 0, 0⟩, ⟨524288, 16, 0, 0⟩, ⟨1048576, 524288, 2, 1⟩, ⟨2097152, 1048576, 4, 1⟩, ⟨4194304, 2097152, 8, 2⟩, ⟨8388608, 0, 0, 0⟩, ⟨16777216, 8388608, 32, 0⟩, ⟨33554432, 20971520, 112, 5⟩, ⟨67108864, 262144, 255, 1⟩, ⟨134217728, 67108864, 511, 1⟩, ⟨0, 167772160, 767, 4⟩]
  | _ => []
theorem enter_35 {c : Code} {args : List HV} {PS : PL} {K : HV → PL → Prop} (hc : Tryz.f35.body = some c) (h : hvc (hop Tryz.prog) (drawBy Tryz.prog pu pl_35) c (hret Tryz.prog [.tmp 2, .tmp 3] K) (hframe 30 args) PS) : HCall Tryz.prog 35 args PS K := by
  have hp : (match Tryz.f35.body with | some c => plansOk pu tb_35 pl_35 c | none => true) = true := by kernel_rfl
  rw [hc] at hp
  refine hcall_of_plans tb_35 pl_35 pu mixed Tryz.func35 hc hp ?_
  rw [Tryz.results35, Tryz.ntmps35]
  exact h
/-- orangery/latch.New -/
def pl_36 (n : Nat) : Plan :=
  let _ := n; .done
def tb_36 (n : Nat) : List Row :=
  let _ := n; []
theorem enter_36 {c : Code} {args : List HV} {PS : PL} {K : HV → PL → Prop} (hc : Tryz.f36.body = some c) (h : hvc (hop Tryz.prog) (drawBy Tryz.prog pu pl_36) c (hret Tryz.prog [.tmp 0] K) (hframe 3 args) PS) : HCall Tryz.prog 36 args PS K := by
  have hp : (match Tryz.f36.body with | some c => plansOk pu tb_36 pl_36 c | none => true) = true := by kernel_rfl
  rw [hc] at hp
  refine hcall_of_plans tb_36 pl_36 pu mixed Tryz.func36 hc hp ?_
  rw [Tryz.results36, Tryz.ntmps36]
  exact h
/-- (*orangery/store.Store).Alloc -/
def pl_37 (n : Nat) : Plan :=
  match n with
  | 5 => .one 0 <| .one 1 <| .one 2 <| .one 3 <| .one 4 <| .one 5 <| .one 6 <| .one 7 <| .one 8 <| .one 9 <| .one 10 <| .one 11 <| .alt 12 [] (.one 13 <| .alt 14 [] (.done) <| .none) <| .none
  | _ => .done
@[go_sem] theorem plan_37_5 : pl_37 5 = (.one 0 <| .one 1 <| .one 2 <| .one 3 <| .one 4 <| .one 5 <| .one 6 <| .one 7 <| .one 8 <| .one 9 <| .one 10 <| .one 11 <| .alt 12 [] (.one 13 <| .alt 14 [] (.done) <| .none) <| .none) := id rfl
def tb_37 (n : Nat) : List Row :=
  match n with
  | 5 => [⟨262144, 1, 0, 0⟩, ⟨524288, 262144, 1, 1⟩, ⟨1048576, 524288, 2, 1⟩, ⟨2097152, 1048576, 4, 2⟩, ⟨4194304, 16, 0, 0⟩, ⟨8388608, 1, 0, 0⟩, ⟨16777216, 8388608, 32, 1⟩, ⟨33554432, 16777216, 64, 1⟩, ⟨67108864, 33554432, 128, 2⟩, ⟨134217728, 16, 0, 0⟩, ⟨268435456, 0, 0, 0⟩, ⟨536870912, 6291456, 287, 1⟩, ⟨0, 536870912, 2335, 4⟩, ⟨1073741824, 201326592, 8191, 1⟩, ⟨0, 1342177280, 16383, 4⟩]
  | _ => []
theorem enter_37 {c : Code} {args : List HV} {PS : PL} {K : HV → PL → Prop} (hc : Tryz.f37.body = some c) (h : hvc (hop Tryz.prog) (drawBy Tryz.prog pu pl_37) c (hret Tryz.prog [.tmp 2, .tmp 3] K) (hframe 33 args) PS) : HCall Tryz.prog 37 args PS K := by
  have hp : (match Tryz.f37.body with | some c => plansOk pu tb_37 pl_37 c | none => true) = true := by kernel_rfl
  rw [hc] at hp
  refine hcall_of_plans tb_37 pl_37 pu mixed Tryz.func37 hc hp ?_
  rw [Tryz.results37, Tryz.ntmps37]
  exact h
/-- (*orangery/hall.Hall).write -/
def pl_38 (n : Nat) : Plan :=
  let _ := n; .done
def tb_38 (n : Nat) : List Row :=
  let _ := n; []
theorem enter_38 {c : Code} {args : List HV} {PS : PL} {K : HV → PL → Prop} (hc : Tryz.f38.body = some c) (h : hvc (hop Tryz.prog) (drawBy Tryz.prog pu pl_38) c (hret Tryz.prog [] K) (hframe 22 args) PS) : HCall Tryz.prog 38 args PS K := by
  have hp : (match Tryz.f38.body with | some c => plansOk pu tb_38 pl_38 c | none => true) = true := by kernel_rfl
  rw [hc] at hp
  refine hcall_of_plans tb_38 pl_38 pu mixed Tryz.func38 hc hp ?_
  rw [Tryz.results38, Tryz.ntmps38]
  exact h
/-- (*orangery/store.Store).Used -/
def pl_39 (n : Nat) : Plan :=
  let _ := n; .done
def tb_39 (n : Nat) : List Row :=
  let _ := n; []
theorem enter_39 {c : Code} {args : List HV} {PS : PL} {K : HV → PL → Prop} (hc : Tryz.f39.body = some c) (h : hvc (hop Tryz.prog) (drawBy Tryz.prog pu pl_39) c (hret Tryz.prog [.tmp 2] K) (hframe 23 args) PS) : HCall Tryz.prog 39 args PS K := by
  have hp : (match Tryz.f39.body with | some c => plansOk pu tb_39 pl_39 c | none => true) = true := by kernel_rfl
  rw [hc] at hp
  refine hcall_of_plans tb_39 pl_39 pu mixed Tryz.func39 hc hp ?_
  rw [Tryz.results39, Tryz.ntmps39]
  exact h
/-- (*orangery/hall.Hall).is -/
def pl_40 (n : Nat) : Plan :=
  let _ := n; .done
def tb_40 (n : Nat) : List Row :=
  let _ := n; []
theorem enter_40 {c : Code} {args : List HV} {PS : PL} {K : HV → PL → Prop} (hc : Tryz.f40.body = some c) (h : hvc (hop Tryz.prog) (drawBy Tryz.prog pu pl_40) c (hret Tryz.prog [.tmp 4] K) (hframe 18 args) PS) : HCall Tryz.prog 40 args PS K := by
  have hp : (match Tryz.f40.body with | some c => plansOk pu tb_40 pl_40 c | none => true) = true := by kernel_rfl
  rw [hc] at hp
  refine hcall_of_plans tb_40 pl_40 pu mixed Tryz.func40 hc hp ?_
  rw [Tryz.results40, Tryz.ntmps40]
  exact h
/-- (*orangery/cache.Cache).Pin -/
def pl_41 (n : Nat) : Plan :=
  match n with
  | 12 => .one 0 <| .one 4 <| .one 5 <| .one 6 <| .one 7 <| .one 8 <| .one 9 <| .one 10 <| .one 11 <| .one 12 <| .one 1 <| .one 2 <| .one 3 <| .alt 13 [3, 2, 1] (.alt 14 [] (.done) <| .none) <| .none
  | _ => .done
@[go_sem] theorem plan_41_12 : pl_41 12 = (.one 0 <| .one 4 <| .one 5 <| .one 6 <| .one 7 <| .one 8 <| .one 9 <| .one 10 <| .one 11 <| .one 12 <| .one 1 <| .one 2 <| .one 3 <| .alt 13 [3, 2, 1] (.alt 14 [] (.done) <| .none) <| .none) := id rfl
def tb_41 (n : Nat) : List Row :=
  match n with
  | 12 => [⟨4503599627370496, 1, 0, 0⟩, ⟨9007199254740992, 4503599627370496, 1, 1⟩, ⟨18014398509481984, 9007199254740992, 2, 1⟩, ⟨36028797018963968, 18014398509481984, 4, 2⟩, ⟨72057594037927936, 4, 0, 0⟩, ⟨144115188075855872, 1, 0, 0⟩, ⟨288230376151711744, 144115188075855872, 32, 1⟩, ⟨576460752303423488, 288230376151711744, 64, 1⟩, ⟨1152921504606846976, 576460752303423488, 128, 2⟩, ⟨2305843009213693952, 4, 0, 0⟩, ⟨4611686018427387904, 3458764513820540928, 768, 2⟩, ⟨9223372036854775808, 2, 0, 0⟩, ⟨18446744073709551616, 9223372036854775808, 2048, 0⟩, ⟨36893488147419103232, 23058430092136939520, 5120, 5⟩, ⟨0, 37001574538475995136, 16383, 5⟩]
  | _ => []
theorem enter_41 {c : Code} {args : List HV} {PS : PL} {K : HV → PL → Prop} (hc : Tryz.f41.body = some c) (h : hvc (hop Tryz.prog) (drawBy Tryz.prog pu pl_41) c (hret Tryz.prog [.tmp 6] K) (hframe 84 args) PS) : HCall Tryz.prog 41 args PS K := by
  have hp : (match Tryz.f41.body with | some c => plansOk pu tb_41 pl_41 c | none => true) = true := by kernel_rfl
  rw [hc] at hp
  refine hcall_of_plans tb_41 pl_41 pu mixed Tryz.func41 hc hp ?_
  rw [Tryz.results41, Tryz.ntmps41]
  exact h
/-- (*orangery/hall.Hall).read -/
def pl_42 (n : Nat) : Plan :=
  let _ := n; .done
def tb_42 (n : Nat) : List Row :=
  let _ := n; []
theorem enter_42 {c : Code} {args : List HV} {PS : PL} {K : HV → PL → Prop} (hc : Tryz.f42.body = some c) (h : hvc (hop Tryz.prog) (drawBy Tryz.prog pu pl_42) c (hret Tryz.prog [.cell 4 48, .tmp 5] K) (hframe 29 args) PS) : HCall Tryz.prog 42 args PS K := by
  have hp : (match Tryz.f42.body with | some c => plansOk pu tb_42 pl_42 c | none => true) = true := by kernel_rfl
  rw [hc] at hp
  refine hcall_of_plans tb_42 pl_42 pu mixed Tryz.func42 hc hp ?_
  rw [Tryz.results42, Tryz.ntmps42]
  exact h
/-- (*orangery/cache.Cache).Fill -/
def pl_43 (n : Nat) : Plan :=
  let _ := n; .done
def tb_43 (n : Nat) : List Row :=
  let _ := n; []
theorem enter_43 {c : Code} {args : List HV} {PS : PL} {K : HV → PL → Prop} (hc : Tryz.f43.body = some c) (h : hvc (hop Tryz.prog) (drawBy Tryz.prog pu pl_43) c (hret Tryz.prog [.tmp 6, .tmp 7] K) (hframe 35 args) PS) : HCall Tryz.prog 43 args PS K := by
  have hp : (match Tryz.f43.body with | some c => plansOk pu tb_43 pl_43 c | none => true) = true := by kernel_rfl
  rw [hc] at hp
  refine hcall_of_plans tb_43 pl_43 pu mixed Tryz.func43 hc hp ?_
  rw [Tryz.results43, Tryz.ntmps43]
  exact h
end Go.Proofs.YthmjdhonafnabaaGreat
