/-
  Facts of the program: types, plans of the regions that draw. Printed by a program of mine.
  No conditions.
-/
import Derived.Test.YtpegkffdhpdciaaEngS
import Derived.Test.YtpegkffdhpdciaaProg
import Derived.KernelRfl
namespace Go.Proofs.Ytpegkffdhpdciaa
open Go Go.Eng
set_option maxRecDepth 20000
theorem mixed : Try.prog.follows .mixedOrders = true := by kernel_rfl
def pu : Pu := [(7, 0)]
attribute [go_sem] pu
@[go_sem] theorem tsz_3 : tsz Try.prog 3 = some (false, 1) := id (by kernel_rfl)
@[go_sem] theorem slOf_3 : slOf Try.prog 3 = none := id (by kernel_rfl)
@[go_sem] theorem zcells_3 : zcells Try.prog 3 = some ([.int .i64 0]) := id (by kernel_rfl)
attribute [go_sem] Try.underlying3
@[go_sem] theorem tsz_4 : tsz Try.prog 4 = some (false, 1) := id (by kernel_rfl)
@[go_sem] theorem slOf_4 : slOf Try.prog 4 = none := id (by kernel_rfl)
@[go_sem] theorem zcells_4 : zcells Try.prog 4 = some ([.bool false]) := id (by kernel_rfl)
attribute [go_sem] Try.underlying4
@[go_sem] theorem tsz_5 : tsz Try.prog 5 = some (false, 1) := id (by kernel_rfl)
@[go_sem] theorem slOf_5 : slOf Try.prog 5 = none := id (by kernel_rfl)
@[go_sem] theorem zcells_5 : zcells Try.prog 5 = some ([.int .u8 0]) := id (by kernel_rfl)
attribute [go_sem] Try.underlying5
@[go_sem] theorem tsz_9 : tsz Try.prog 9 = some (false, 1) := id (by kernel_rfl)
@[go_sem] theorem slOf_9 : slOf Try.prog 9 = none := id (by kernel_rfl)
@[go_sem] theorem zcells_9 : zcells Try.prog 9 = some ([.str []]) := id (by kernel_rfl)
attribute [go_sem] Try.underlying9
@[go_sem] theorem tsz_23 : tsz Try.prog 23 = some (false, 1) := id (by kernel_rfl)
@[go_sem] theorem slOf_23 : slOf Try.prog 23 = none := id (by kernel_rfl)
@[go_sem] theorem zcells_23 : zcells Try.prog 23 = some ([.cst (.pointer none)]) := id (by kernel_rfl)
attribute [go_sem] Try.underlying23
@[go_sem] theorem tsz_24 : tsz Try.prog 24 = some (false, 1) := id (by kernel_rfl)
@[go_sem] theorem slOf_24 : slOf Try.prog 24 = none := id (by kernel_rfl)
@[go_sem] theorem zcells_24 : zcells Try.prog 24 = some ([.int .i64 0]) := id (by kernel_rfl)
attribute [go_sem] Try.underlying24
@[go_sem] theorem tsz_29 : tsz Try.prog 29 = some (false, 1) := id (by kernel_rfl)
@[go_sem] theorem slOf_29 : slOf Try.prog 29 = some (5, 1) := id (by kernel_rfl)
@[go_sem] theorem mkOf_29 : mkOf Try.prog 29 = some (1, 1, [.int .u8 0]) := id (by kernel_rfl)
@[go_sem] theorem zcells_29 : zcells Try.prog 29 = some ([.imm true []]) := id (by kernel_rfl)
attribute [go_sem] Try.underlying29
@[go_sem] theorem tsz_39 : tsz Try.prog 39 = some (false, 1) := id (by kernel_rfl)
@[go_sem] theorem slOf_39 : slOf Try.prog 39 = some (44, 4) := id (by kernel_rfl)
@[go_sem] theorem mkOf_39 : mkOf Try.prog 39 = some (4, 32, [.int .i64 0, .int .i64 0, .int .i64 0, .int .u8 0]) := id (by kernel_rfl)
@[go_sem] theorem zcells_39 : zcells Try.prog 39 = some ([.imm true []]) := id (by kernel_rfl)
attribute [go_sem] Try.underlying39
@[go_sem] theorem tsz_40 : tsz Try.prog 40 = some (false, 1) := id (by kernel_rfl)
@[go_sem] theorem slOf_40 : slOf Try.prog 40 = none := id (by kernel_rfl)
@[go_sem] theorem zcells_40 : zcells Try.prog 40 = some ([.cst (.pointer none)]) := id (by kernel_rfl)
attribute [go_sem] Try.underlying40
@[go_sem] theorem tsz_44 : tsz Try.prog 44 = some (true, 4) := id (by kernel_rfl)
@[go_sem] theorem slOf_44 : slOf Try.prog 44 = none := id (by kernel_rfl)
@[go_sem] theorem zcells_44 : zcells Try.prog 44 = some ([.int .i64 0, .int .i64 0, .int .i64 0, .int .u8 0]) := id (by kernel_rfl)
@[go_sem] theorem bknown_44 : bknown Try.prog 44 = true := id (by kernel_rfl)
@[go_sem] theorem fldOf_44_0 : fldOf Try.prog 44 0 = some (0, 1) := id (by kernel_rfl)
@[go_sem] theorem bplace_44_0 : bplace Try.prog 44 0 = some (0, 1) := id (by kernel_rfl)
@[go_sem] theorem fplace_44_0 : fplace Try.prog 44 0 = some (false, 1, 0) := id (by kernel_rfl)
@[go_sem] theorem fldOf_44_1 : fldOf Try.prog 44 1 = some (1, 1) := id (by kernel_rfl)
@[go_sem] theorem bplace_44_1 : bplace Try.prog 44 1 = some (1, 1) := id (by kernel_rfl)
@[go_sem] theorem fplace_44_1 : fplace Try.prog 44 1 = some (false, 1, 1) := id (by kernel_rfl)
@[go_sem] theorem fldOf_44_2 : fldOf Try.prog 44 2 = some (2, 1) := id (by kernel_rfl)
@[go_sem] theorem bplace_44_2 : bplace Try.prog 44 2 = some (2, 1) := id (by kernel_rfl)
@[go_sem] theorem fplace_44_2 : fplace Try.prog 44 2 = some (false, 1, 2) := id (by kernel_rfl)
@[go_sem] theorem fldOf_44_3 : fldOf Try.prog 44 3 = some (3, 1) := id (by kernel_rfl)
@[go_sem] theorem bplace_44_3 : bplace Try.prog 44 3 = some (3, 1) := id (by kernel_rfl)
@[go_sem] theorem fplace_44_3 : fplace Try.prog 44 3 = some (false, 1, 3) := id (by kernel_rfl)
attribute [go_sem] Try.underlying44
@[go_sem] theorem tsz_53 : tsz Try.prog 53 = some (false, 1) := id (by kernel_rfl)
@[go_sem] theorem slOf_53 : slOf Try.prog 53 = some (3, 1) := id (by kernel_rfl)
@[go_sem] theorem mkOf_53 : mkOf Try.prog 53 = some (1, 8, [.int .i64 0]) := id (by kernel_rfl)
@[go_sem] theorem zcells_53 : zcells Try.prog 53 = some ([.imm true []]) := id (by kernel_rfl)
attribute [go_sem] Try.underlying53
@[go_sem] theorem tsz_57 : tsz Try.prog 57 = some (false, 1) := id (by kernel_rfl)
@[go_sem] theorem slOf_57 : slOf Try.prog 57 = some (62, 256) := id (by kernel_rfl)
@[go_sem] theorem mkOf_57 : mkOf Try.prog 57 = some (256, 256, List.replicate 256 (.int .u8 0)) := id (by kernel_rfl)
@[go_sem] theorem zcells_57 : zcells Try.prog 57 = some ([.imm true []]) := id (by kernel_rfl)
attribute [go_sem] Try.underlying57
@[go_sem] theorem tsz_58 : tsz Try.prog 58 = some (false, 1) := id (by kernel_rfl)
@[go_sem] theorem slOf_58 : slOf Try.prog 58 = some (4, 1) := id (by kernel_rfl)
@[go_sem] theorem mkOf_58 : mkOf Try.prog 58 = some (1, 1, [.bool false]) := id (by kernel_rfl)
@[go_sem] theorem zcells_58 : zcells Try.prog 58 = some ([.imm true []]) := id (by kernel_rfl)
attribute [go_sem] Try.underlying58
@[go_sem] theorem tsz_60 : tsz Try.prog 60 = some (true, 2) := id (by kernel_rfl)
@[go_sem] theorem slOf_60 : slOf Try.prog 60 = none := id (by kernel_rfl)
@[go_sem] theorem zcells_60 : zcells Try.prog 60 = some ([.imm true [], .imm true []]) := id (by kernel_rfl)
@[go_sem] theorem bknown_60 : bknown Try.prog 60 = true := id (by kernel_rfl)
@[go_sem] theorem fldOf_60_0 : fldOf Try.prog 60 0 = some (0, 1) := id (by kernel_rfl)
@[go_sem] theorem bplace_60_0 : bplace Try.prog 60 0 = some (0, 1) := id (by kernel_rfl)
@[go_sem] theorem fplace_60_0 : fplace Try.prog 60 0 = some (false, 1, 0) := id (by kernel_rfl)
@[go_sem] theorem fldOf_60_1 : fldOf Try.prog 60 1 = some (1, 1) := id (by kernel_rfl)
@[go_sem] theorem bplace_60_1 : bplace Try.prog 60 1 = some (1, 1) := id (by kernel_rfl)
@[go_sem] theorem fplace_60_1 : fplace Try.prog 60 1 = some (false, 1, 1) := id (by kernel_rfl)
attribute [go_sem] Try.underlying60
@[go_sem] theorem tsz_62 : tsz Try.prog 62 = some (true, 256) := id (by kernel_rfl)
@[go_sem] theorem slOf_62 : slOf Try.prog 62 = none := id (by kernel_rfl)
@[go_sem] theorem arOf_62 : arOf Try.prog 62 = some (256, 5, 1) := id (by kernel_rfl)
@[go_sem] theorem zcells_62 : zcells Try.prog 62 = some (List.replicate 256 (.int .u8 0)) := id (by kernel_rfl)
@[go_sem] theorem bknown_62 : bknown Try.prog 62 = true := id (by kernel_rfl)
@[go_sem] theorem bplace_62_0 : bplace Try.prog 62 0 = some (0, 1) := id (by kernel_rfl)
@[go_sem] theorem bplace_62_1 : bplace Try.prog 62 1 = some (1, 1) := id (by kernel_rfl)
@[go_sem] theorem bplace_62_2 : bplace Try.prog 62 2 = some (2, 1) := id (by kernel_rfl)
@[go_sem] theorem bplace_62_3 : bplace Try.prog 62 3 = some (3, 1) := id (by kernel_rfl)
@[go_sem] theorem bplace_62_4 : bplace Try.prog 62 4 = some (4, 1) := id (by kernel_rfl)
@[go_sem] theorem bplace_62_5 : bplace Try.prog 62 5 = some (5, 1) := id (by kernel_rfl)
@[go_sem] theorem bplace_62_6 : bplace Try.prog 62 6 = some (6, 1) := id (by kernel_rfl)
@[go_sem] theorem bplace_62_7 : bplace Try.prog 62 7 = some (7, 1) := id (by kernel_rfl)
@[go_sem] theorem bplace_62_8 : bplace Try.prog 62 8 = some (8, 1) := id (by kernel_rfl)
@[go_sem] theorem bplace_62_9 : bplace Try.prog 62 9 = some (9, 1) := id (by kernel_rfl)
@[go_sem] theorem bplace_62_10 : bplace Try.prog 62 10 = some (10, 1) := id (by kernel_rfl)
@[go_sem] theorem bplace_62_11 : bplace Try.prog 62 11 = some (11, 1) := id (by kernel_rfl)
@[go_sem] theorem bplace_62_12 : bplace Try.prog 62 12 = some (12, 1) := id (by kernel_rfl)
@[go_sem] theorem bplace_62_13 : bplace Try.prog 62 13 = some (13, 1) := id (by kernel_rfl)
@[go_sem] theorem bplace_62_14 : bplace Try.prog 62 14 = some (14, 1) := id (by kernel_rfl)
@[go_sem] theorem bplace_62_15 : bplace Try.prog 62 15 = some (15, 1) := id (by kernel_rfl)
attribute [go_sem] Try.underlying62
@[go_sem] theorem tsz_64 : tsz Try.prog 64 = some (false, 1) := id (by kernel_rfl)
@[go_sem] theorem slOf_64 : slOf Try.prog 64 = some (29, 1) := id (by kernel_rfl)
@[go_sem] theorem mkOf_64 : mkOf Try.prog 64 = some (1, 24, [.imm true []]) := id (by kernel_rfl)
@[go_sem] theorem zcells_64 : zcells Try.prog 64 = some ([.imm true []]) := id (by kernel_rfl)
attribute [go_sem] Try.underlying64
@[go_sem] theorem tsz_66 : tsz Try.prog 66 = some (true, 2) := id (by kernel_rfl)
@[go_sem] theorem slOf_66 : slOf Try.prog 66 = none := id (by kernel_rfl)
@[go_sem] theorem zcells_66 : zcells Try.prog 66 = some ([.imm true [], .imm true []]) := id (by kernel_rfl)
@[go_sem] theorem bknown_66 : bknown Try.prog 66 = true := id (by kernel_rfl)
@[go_sem] theorem fldOf_66_0 : fldOf Try.prog 66 0 = some (0, 1) := id (by kernel_rfl)
@[go_sem] theorem bplace_66_0 : bplace Try.prog 66 0 = some (0, 1) := id (by kernel_rfl)
@[go_sem] theorem fplace_66_0 : fplace Try.prog 66 0 = some (false, 1, 0) := id (by kernel_rfl)
@[go_sem] theorem fldOf_66_1 : fldOf Try.prog 66 1 = some (1, 1) := id (by kernel_rfl)
@[go_sem] theorem bplace_66_1 : bplace Try.prog 66 1 = some (1, 1) := id (by kernel_rfl)
@[go_sem] theorem fplace_66_1 : fplace Try.prog 66 1 = some (false, 1, 1) := id (by kernel_rfl)
attribute [go_sem] Try.underlying66
@[go_sem] theorem callable_7 : callable Try.prog 7 = true := id (by kernel_rfl)
@[go_sem] theorem callable_8 : callable Try.prog 8 = true := id (by kernel_rfl)
@[go_sem] theorem callable_9 : callable Try.prog 9 = true := id (by kernel_rfl)
@[go_sem] theorem callable_10 : callable Try.prog 10 = true := id (by kernel_rfl)
@[go_sem] theorem callable_11 : callable Try.prog 11 = true := id (by kernel_rfl)
@[go_sem] theorem callable_12 : callable Try.prog 12 = true := id (by kernel_rfl)
@[go_sem] theorem callable_13 : callable Try.prog 13 = true := id (by kernel_rfl)
@[go_sem] theorem callable_14 : callable Try.prog 14 = true := id (by kernel_rfl)
@[go_sem] theorem callable_15 : callable Try.prog 15 = true := id (by kernel_rfl)
@[go_sem] theorem callable_16 : callable Try.prog 16 = true := id (by kernel_rfl)
@[go_sem] theorem callable_17 : callable Try.prog 17 = true := id (by kernel_rfl)
@[go_sem] theorem callable_18 : callable Try.prog 18 = true := id (by kernel_rfl)
@[go_sem] theorem callable_19 : callable Try.prog 19 = true := id (by kernel_rfl)
@[go_sem] theorem callable_20 : callable Try.prog 20 = true := id (by kernel_rfl)
@[go_sem] theorem callable_21 : callable Try.prog 21 = true := id (by kernel_rfl)
@[go_sem] theorem callable_22 : callable Try.prog 22 = true := id (by kernel_rfl)
@[go_sem] theorem callable_23 : callable Try.prog 23 = true := id (by kernel_rfl)
@[go_sem] theorem callable_24 : callable Try.prog 24 = true := id (by kernel_rfl)
@[go_sem] theorem callable_25 : callable Try.prog 25 = true := id (by kernel_rfl)
@[go_sem] theorem callable_26 : callable Try.prog 26 = true := id (by kernel_rfl)
@[go_sem] theorem callable_27 : callable Try.prog 27 = true := id (by kernel_rfl)
@[go_sem] theorem callable_28 : callable Try.prog 28 = true := id (by kernel_rfl)
/-- orangery/orangerylaw12.StoreKeeps -/
def pl_3 (n : Nat) : Plan :=
  match n with
  | 17 => .one 0 <| .one 1 <| .one 2 <| .one 3 <| .one 4 <| .one 5 <| .one 6 <| .one 7 <| .one 8 <| .one 9 <| .one 10 <| .one 11 <| .one 13 <| .one 12 <| .alt 14 [12] (.one 15 <| .one 16 <| .one 17 <| .done) <| .none
  | 21 => .one 0 <| .one 1 <| .one 2 <| .one 3 <| .one 5 <| .one 4 <| .alt 6 [4] (.one 7 <| .one 8 <| .one 9 <| .one 10 <| .alt 11 [] (.one 12 <| .one 13 <| .done) <| .none) <| .none
  | _ => .done
@[go_sem] theorem plan_3_17 : pl_3 17 = (.one 0 <| .one 1 <| .one 2 <| .one 3 <| .one 4 <| .one 5 <| .one 6 <| .one 7 <| .one 8 <| .one 9 <| .one 10 <| .one 11 <| .one 13 <| .one 12 <| .alt 14 [12] (.one 15 <| .one 16 <| .one 17 <| .done) <| .none) := id rfl
@[go_sem] theorem plan_3_21 : pl_3 21 = (.one 0 <| .one 1 <| .one 2 <| .one 3 <| .one 5 <| .one 4 <| .alt 6 [4] (.one 7 <| .one 8 <| .one 9 <| .one 10 <| .alt 11 [] (.one 12 <| .one 13 <| .done) <| .none) <| .none) := id rfl
def tb_3 (n : Nat) : List Row :=
  match n with
  | 17 => [⟨77371252455336267181195264, 1048576, 0, 0⟩, ⟨154742504910672534362390528, 77371252455336267181195264, 1, 1⟩, ⟨309485009821345068724781056, 154742504910672534362390528, 2, 0⟩, ⟨618970019642690137449562112, 309485009821345068726878208, 4, 0⟩, ⟨1237940039285380274899124224, 928455029464035206174343168, 12, 1⟩, ⟨2475880078570760549798248448, 1547425049106725343623905280, 20, 0⟩, ⟨4951760157141521099596496896, 2475880078570760549798248448, 36, 0⟩, ⟨9903520314283042199192993792, 4951760157141521099604885504, 64, 0⟩, ⟨19807040628566084398385987584, 14855280471424563298789490688, 192, 1⟩, ⟨39614081257132168796771975168, 24758800785707605497982484480, 320, 0⟩, ⟨79228162514264337593543950336, 39614081257132168796771975168, 576, 0⟩, ⟨158456325028528675187087900672, 79228162514264337593548144640, 1024, 0⟩, ⟨316912650057057350374175801344, 237684487542793012780631851008, 3072, 2⟩, ⟨633825300114114700748351602688, 79228162514264337593543950344, 1024, 0⟩, ⟨1267650600228229401496703205376, 713053462628379038341895553024, 9216, 5⟩, ⟨2535301200456458802993406410752, 1346878762742493739090247155712, 17408, 2⟩, ⟨5070602400912917605986812821504, 2931442013027780490961126162432, 37888, 1⟩, ⟨10141204801825835211973625643008, 5149830563427181943580356771840, 66560, 0⟩]
  | 21 => [⟨20769187434139310514121985316880384, 33554432, 0, 0⟩, ⟨41538374868278621028243970633760768, 20769187434139310514121985316880384, 1, 1⟩, ⟨83076749736557242056487941267521536, 41538374868278621028243970633760768, 2, 0⟩, ⟨166153499473114484112975882535043072, 83076749736557242056487941284298752, 4, 0⟩, ⟨332306998946228968225951765070086144, 249230249209671726169463823802564608, 12, 2⟩, ⟨664613997892457936451903530140172288, 83076749736557242056487941267521544, 4, 0⟩, ⟨1329227995784915872903807060280344576, 747690747629015178508391471407693824, 36, 5⟩, ⟨2658455991569831745807614120560689152, 1412304745521473114960295001547866112, 68, 2⟩, ⟨5316911983139663491615228241121378304, 3073839740252617956090053826898296832, 148, 1⟩, ⟨10633823966279326983230456482242756608, 5399988732876220733671716182388899840, 260, 0⟩, ⟨21267647932558653966460912964485513216, 10633823966279326983230456482242756608, 576, 0⟩, ⟨42535295865117307932921825928971026432, 21267647932558653966460912964485513216, 1024, 5⟩, ⟨85070591730234615865843651857942052864, 63802943797675961899382738893456539648, 3072, 0⟩, ⟨1024, 85070591730234615865843651857942052864, 8191, 0⟩]
  | _ => []
theorem enter_3 {c : Code} {args : List HV} {PS : PL} {K : HV → PL → Prop} (hc : Try.f3.body = some c) (h : hvc (hop Try.prog) (drawBy Try.prog pu pl_3) c (hret Try.prog [.tmp 10] K) (hframe 127 args) PS) : HCall Try.prog 3 args PS K := by
  have hp : (match Try.f3.body with | some c => plansOk pu tb_3 pl_3 c | none => true) = true := by kernel_rfl
  rw [hc] at hp
  refine hcall_of_plans tb_3 pl_3 pu mixed Try.func3 hc hp ?_
  rw [Try.results3, Try.ntmps3]
  exact h
/-- orangery/orangerylaw12.StoreFills -/
def pl_4 (n : Nat) : Plan :=
  match n with
  | 18 => .one 0 <| .one 1 <| .one 2 <| .one 3 <| .one 4 <| .one 5 <| .one 6 <| .one 7 <| .one 8 <| .one 9 <| .one 10 <| .one 11 <| .one 12 <| .one 13 <| .one 14 <| .one 15 <| .one 16 <| .one 17 <| .one 18 <| .one 19 <| .one 20 <| .one 21 <| .one 22 <| .one 23 <| .one 24 <| .one 25 <| .one 26 <| .one 27 <| .one 28 <| .one 29 <| .one 30 <| .one 31 <| .one 32 <| .one 33 <| .alt 34 [] (.one 35 <| .one 36 <| .one 37 <| .one 38 <| .alt 39 [] (.one 40 <| .one 41 <| .done) <| .none) <| .none
  | _ => .done
@[go_sem] theorem plan_4_18 : pl_4 18 = (.one 0 <| .one 1 <| .one 2 <| .one 3 <| .one 4 <| .one 5 <| .one 6 <| .one 7 <| .one 8 <| .one 9 <| .one 10 <| .one 11 <| .one 12 <| .one 13 <| .one 14 <| .one 15 <| .one 16 <| .one 17 <| .one 18 <| .one 19 <| .one 20 <| .one 21 <| .one 22 <| .one 23 <| .one 24 <| .one 25 <| .one 26 <| .one 27 <| .one 28 <| .one 29 <| .one 30 <| .one 31 <| .one 32 <| .one 33 <| .alt 34 [] (.one 35 <| .one 36 <| .one 37 <| .one 38 <| .alt 39 [] (.one 40 <| .one 41 <| .done) <| .none) <| .none) := id rfl
def tb_4 (n : Nat) : List Row :=
  match n with
  | 18 => [⟨316912650057057350374175801344, 4096, 0, 0⟩, ⟨633825300114114700748351602688, 316912650057057350374175801344, 1, 1⟩, ⟨1267650600228229401496703205376, 633825300114114700748351602688, 2, 0⟩, ⟨2535301200456458802993406410752, 1267650600228229401496703221760, 4, 0⟩, ⟨5070602400912917605986812821504, 3802951800684688204490109616128, 12, 1⟩, ⟨10141204801825835211973625643008, 6338253001141147007483516026880, 20, 0⟩, ⟨20282409603651670423947251286016, 10141204801825835211973625643008, 36, 0⟩, ⟨40564819207303340847894502572032, 20282409603651670423947251318784, 64, 0⟩, ⟨81129638414606681695789005144064, 60847228810955011271841753858048, 192, 1⟩, ⟨162259276829213363391578010288128, 101412048018258352119736256430080, 320, 0⟩, ⟨324518553658426726783156020576256, 162259276829213363391578010288128, 576, 0⟩, ⟨649037107316853453566312041152512, 324518553658426726783156020641792, 1024, 0⟩, ⟨1298074214633706907132624082305024, 973555660975280180349468061728768, 3072, 1⟩, ⟨2596148429267413814265248164610048, 1622592768292133633915780102881280, 5120, 0⟩, ⟨5192296858534827628530496329220096, 2596148429267413814265248164610048, 9216, 0⟩, ⟨10384593717069655257060992658440192, 5192296858534827628530496329482240, 16384, 0⟩, ⟨20769187434139310514121985316880384, 15576890575604482885591488987660288, 49152, 1⟩, ⟨41538374868278621028243970633760768, 25961484292674138142652481646100480, 81920, 0⟩, ⟨83076749736557242056487941267521536, 41538374868278621028243970633760768, 147456, 0⟩, ⟨166153499473114484112975882535043072, 83076749736557242056487941268570112, 262144, 0⟩, ⟨332306998946228968225951765070086144, 249230249209671726169463823802564608, 786432, 1⟩, ⟨664613997892457936451903530140172288, 415383748682786210282439706337607680, 1310720, 0⟩, ⟨1329227995784915872903807060280344576, 664613997892457936451903530140172288, 2359296, 0⟩, ⟨2658455991569831745807614120560689152, 1329227995784915872903807060280868864, 4194304, 0⟩, ⟨5316911983139663491615228241121378304, 1329227995784915872903807060280352768, 4194304, 0⟩, ⟨10633823966279326983230456482242756608, 9304595970494411110326649421962412032, 29360128, 1⟩, ⟨21267647932558653966460912964485513216, 11963051962064242856134263542523101184, 37748736, 0⟩, ⟨42535295865117307932921825928971026432, 21267647932558653966460912964485513216, 71303168, 0⟩, ⟨85070591730234615865843651857942052864, 42535295865117307932921825928975220736, 134217728, 0⟩, ⟨170141183460469231731687303715884105728, 127605887595351923798765477786913079296, 402653184, 1⟩, ⟨340282366920938463463374607431768211456, 212676479325586539664609129644855132160, 671088640, 0⟩, ⟨680564733841876926926749214863536422912, 340282366920938463463374607431768211456, 1207959552, 0⟩, ⟨1361129467683753853853498429727072845824, 680564733841876926926749214863538520064, 2147483648, 0⟩, ⟨2722258935367507707706996859454145691648, 2041694201525630780780247644590609268736, 6442450944, 2⟩, ⟨5444517870735015415413993718908291383296, 680564733841876926926749214863536422912, 2147483648, 3⟩, ⟨10889035741470030830827987437816582766592, 6125082604576892342340742933771827806208, 19327352832, 2⟩, ⟨21778071482940061661655974875633165533184, 14291859410679415465461733512134264881152, 45097156608, 1⟩, ⟨43556142965880123323311949751266331066368, 22458636216781938588582724090496701956096, 70866960384, 0⟩, ⟨87112285931760246646623899502532662132736, 43556142965880123323311949751266331066368, 139586437120, 0⟩, ⟨174224571863520493293247799005065324265472, 87112285931760246646623899502532662132736, 274877906944, 5⟩, ⟨348449143727040986586495598010130648530944, 261336857795280739939871698507597986398208, 824633720832, 0⟩, ⟨16, 348449143727040986586495598010130648530944, 2199023255551, 0⟩]
  | _ => []
theorem enter_4 {c : Code} {args : List HV} {PS : PL} {K : HV → PL → Prop} (hc : Try.f4.body = some c) (h : hvc (hop Try.prog) (drawBy Try.prog pu pl_4) c (hret Try.prog [.tmp 4] K) (hframe 139 args) PS) : HCall Try.prog 4 args PS K := by
  have hp : (match Try.f4.body with | some c => plansOk pu tb_4 pl_4 c | none => true) = true := by kernel_rfl
  rw [hc] at hp
  refine hcall_of_plans tb_4 pl_4 pu mixed Try.func4 hc hp ?_
  rw [Try.results4, Try.ntmps4]
  exact h
/-- orangery/orangerylaw12.StoreRefuses -/
def pl_5 (n : Nat) : Plan :=
  match n with
  | 13 => .one 0 <| .one 1 <| .one 2 <| .one 3 <| .one 4 <| .one 5 <| .one 6 <| .one 7 <| .one 8 <| .one 9 <| .one 10 <| .one 11 <| .one 12 <| .alt 13 [] (.one 14 <| .one 15 <| .one 16 <| .one 17 <| .done) <| .none
  | _ => .done
@[go_sem] theorem plan_5_13 : pl_5 13 = (.one 0 <| .one 1 <| .one 2 <| .one 3 <| .one 4 <| .one 5 <| .one 6 <| .one 7 <| .one 8 <| .one 9 <| .one 10 <| .one 11 <| .one 12 <| .alt 13 [] (.one 14 <| .one 15 <| .one 16 <| .one 17 <| .done) <| .none) := id rfl
def tb_5 (n : Nat) : List Row :=
  match n with
  | 13 => [⟨35184372088832, 512, 0, 0⟩, ⟨70368744177664, 256, 0, 0⟩, ⟨140737488355328, 105553116266496, 3, 1⟩, ⟨281474976710656, 140737488355328, 4, 0⟩, ⟨562949953421312, 281474976712704, 8, 0⟩, ⟨1125899906842624, 844424930131968, 24, 1⟩, ⟨2251799813685248, 1407374883553280, 40, 0⟩, ⟨4503599627370496, 2251799813685248, 72, 0⟩, ⟨9007199254740992, 4503599627370752, 128, 0⟩, ⟨18014398509481984, 13510798882111488, 384, 1⟩, ⟨36028797018963968, 22517998136852480, 640, 0⟩, ⟨72057594037927936, 36028797018964992, 1024, 0⟩, ⟨144115188075855872, 108086391056891904, 3072, 2⟩, ⟨288230376151711744, 36028797018963968, 1024, 3⟩, ⟨576460752303423488, 324259173170675712, 9216, 2⟩, ⟨1152921504606846976, 756604737398243328, 21504, 1⟩, ⟨2305843009213693952, 1193453901253181440, 33920, 0⟩, ⟨4611686018427387904, 2310346608841064448, 65664, 0⟩]
  | _ => []
theorem enter_5 {c : Code} {args : List HV} {PS : PL} {K : HV → PL → Prop} (hc : Try.f5.body = some c) (h : hvc (hop Try.prog) (drawBy Try.prog pu pl_5) c (hret Try.prog [.tmp 4] K) (hframe 95 args) PS) : HCall Try.prog 5 args PS K := by
  have hp : (match Try.f5.body with | some c => plansOk pu tb_5 pl_5 c | none => true) = true := by kernel_rfl
  rw [hc] at hp
  refine hcall_of_plans tb_5 pl_5 pu mixed Try.func5 hc hp ?_
  rw [Try.results5, Try.ntmps5]
  exact h
/-- orangery/orangerylaw12.StorePlays -/
def pl_6 (n : Nat) : Plan :=
  let _ := n; .done
def tb_6 (n : Nat) : List Row :=
  let _ := n; []
theorem enter_6 {c : Code} {args : List HV} {PS : PL} {K : HV → PL → Prop} (hc : Try.f6.body = some c) (h : hvc (hop Try.prog) (drawBy Try.prog pu pl_6) c (hret Try.prog [.tmp 4] K) (hframe 187 args) PS) : HCall Try.prog 6 args PS K := by
  have hp : (match Try.f6.body with | some c => plansOk pu tb_6 pl_6 c | none => true) = true := by kernel_rfl
  rw [hc] at hp
  refine hcall_of_plans tb_6 pl_6 pu mixed Try.func6 hc hp ?_
  rw [Try.results6, Try.ntmps6]
  exact h
/-- orangery/orangerylaw00.Place -/
def pl_7 (n : Nat) : Plan :=
  let _ := n; .done
def tb_7 (n : Nat) : List Row :=
  let _ := n; []
theorem enter_7 {c : Code} {args : List HV} {PS : PL} {K : HV → PL → Prop} (hc : Try.f7.body = some c) (h : hvc (hop Try.prog) (drawBy Try.prog pu pl_7) c (hret Try.prog [.tmp 4] K) (hframe 15 args) PS) : HCall Try.prog 7 args PS K := by
  have hp : (match Try.f7.body with | some c => plansOk pu tb_7 pl_7 c | none => true) = true := by kernel_rfl
  rw [hc] at hp
  refine hcall_of_plans tb_7 pl_7 pu mixed Try.func7 hc hp ?_
  rw [Try.results7, Try.ntmps7]
  exact h
/-- orangery/store.New -/
def pl_8 (n : Nat) : Plan :=
  match n with
  | 3 => .one 0 <| .one 2 <| .alt 1 [] (.alt 3 [] (.one 4 <| .alt 5 [] (.one 6 <| .one 7 <| .done) <| .none) <| .none) <| .alt 3 [] (.alt 1 [] (.one 4 <| .alt 5 [] (.one 6 <| .one 7 <| .done) <| .none) <| .none) <| .none
  | _ => .done
@[go_sem] theorem plan_8_3 : pl_8 3 = (.one 0 <| .one 2 <| .alt 1 [] (.alt 3 [] (.one 4 <| .alt 5 [] (.one 6 <| .one 7 <| .done) <| .none) <| .none) <| .alt 3 [] (.alt 1 [] (.one 4 <| .alt 5 [] (.one 6 <| .one 7 <| .done) <| .none) <| .none) <| .none) := id rfl
def tb_8 (n : Nat) : List Row :=
  match n with
  | 3 => [⟨1024, 1, 0, 0⟩, ⟨2048, 1024, 1, 3⟩, ⟨4096, 1, 0, 0⟩, ⟨8192, 4096, 4, 3⟩, ⟨16384, 10240, 10, 0⟩, ⟨32768, 16384, 16, 3⟩, ⟨4, 32768, 63, 0⟩, ⟨8, 0, 127, 0⟩]
  | _ => []
theorem enter_8 {c : Code} {args : List HV} {PS : PL} {K : HV → PL → Prop} (hc : Try.f8.body = some c) (h : hvc (hop Try.prog) (drawBy Try.prog pu pl_8) c (hret Try.prog [.tmp 2, .tmp 3] K) (hframe 16 args) PS) : HCall Try.prog 8 args PS K := by
  have hp : (match Try.f8.body with | some c => plansOk pu tb_8 pl_8 c | none => true) = true := by kernel_rfl
  rw [hc] at hp
  refine hcall_of_plans tb_8 pl_8 pu mixed Try.func8 hc hp ?_
  rw [Try.results8, Try.ntmps8]
  exact h
/-- (*orangery/store.Store).Alloc -/
def pl_9 (n : Nat) : Plan :=
  match n with
  | 5 => .one 0 <| .one 1 <| .one 2 <| .one 3 <| .one 4 <| .one 5 <| .one 6 <| .one 7 <| .one 8 <| .one 9 <| .one 10 <| .one 11 <| .alt 12 [] (.one 13 <| .alt 14 [] (.done) <| .none) <| .none
  | _ => .done
@[go_sem] theorem plan_9_5 : pl_9 5 = (.one 0 <| .one 1 <| .one 2 <| .one 3 <| .one 4 <| .one 5 <| .one 6 <| .one 7 <| .one 8 <| .one 9 <| .one 10 <| .one 11 <| .alt 12 [] (.one 13 <| .alt 14 [] (.done) <| .none) <| .none) := id rfl
def tb_9 (n : Nat) : List Row :=
  match n with
  | 5 => [⟨262144, 1, 0, 0⟩, ⟨524288, 262144, 1, 1⟩, ⟨1048576, 524288, 2, 1⟩, ⟨2097152, 1048576, 4, 2⟩, ⟨4194304, 16, 0, 0⟩, ⟨8388608, 1, 0, 0⟩, ⟨16777216, 8388608, 32, 1⟩, ⟨33554432, 16777216, 64, 1⟩, ⟨67108864, 33554432, 128, 2⟩, ⟨134217728, 16, 0, 0⟩, ⟨268435456, 0, 0, 0⟩, ⟨536870912, 6291456, 287, 1⟩, ⟨0, 536870912, 2335, 4⟩, ⟨1073741824, 201326592, 8191, 1⟩, ⟨0, 1342177280, 16383, 4⟩]
  | _ => []
theorem enter_9 {c : Code} {args : List HV} {PS : PL} {K : HV → PL → Prop} (hc : Try.f9.body = some c) (h : hvc (hop Try.prog) (drawBy Try.prog pu pl_9) c (hret Try.prog [.tmp 2, .tmp 3] K) (hframe 33 args) PS) : HCall Try.prog 9 args PS K := by
  have hp : (match Try.f9.body with | some c => plansOk pu tb_9 pl_9 c | none => true) = true := by kernel_rfl
  rw [hc] at hp
  refine hcall_of_plans tb_9 pl_9 pu mixed Try.func9 hc hp ?_
  rw [Try.results9, Try.ntmps9]
  exact h
/-- orangery/orangerylaw12.bytes -/
def pl_10 (n : Nat) : Plan :=
  let _ := n; .done
def tb_10 (n : Nat) : List Row :=
  let _ := n; []
theorem enter_10 {c : Code} {args : List HV} {PS : PL} {K : HV → PL → Prop} (hc : Try.f10.body = some c) (h : hvc (hop Try.prog) (drawBy Try.prog pu pl_10) c (hret Try.prog [.tmp 4] K) (hframe 23 args) PS) : HCall Try.prog 10 args PS K := by
  have hp : (match Try.f10.body with | some c => plansOk pu tb_10 pl_10 c | none => true) = true := by kernel_rfl
  rw [hc] at hp
  refine hcall_of_plans tb_10 pl_10 pu mixed Try.func10 hc hp ?_
  rw [Try.results10, Try.ntmps10]
  exact h
/-- (*orangery/store.Store).Write -/
def pl_11 (n : Nat) : Plan :=
  let _ := n; .done
def tb_11 (n : Nat) : List Row :=
  let _ := n; []
theorem enter_11 {c : Code} {args : List HV} {PS : PL} {K : HV → PL → Prop} (hc : Try.f11.body = some c) (h : hvc (hop Try.prog) (drawBy Try.prog pu pl_11) c (hret Try.prog [.tmp 6] K) (hframe 25 args) PS) : HCall Try.prog 11 args PS K := by
  have hp : (match Try.f11.body with | some c => plansOk pu tb_11 pl_11 c | none => true) = true := by kernel_rfl
  rw [hc] at hp
  refine hcall_of_plans tb_11 pl_11 pu mixed Try.func11 hc hp ?_
  rw [Try.results11, Try.ntmps11]
  exact h
/-- (*orangery/store.Store).Read -/
def pl_12 (n : Nat) : Plan :=
  let _ := n; .done
def tb_12 (n : Nat) : List Row :=
  let _ := n; []
theorem enter_12 {c : Code} {args : List HV} {PS : PL} {K : HV → PL → Prop} (hc : Try.f12.body = some c) (h : hvc (hop Try.prog) (drawBy Try.prog pu pl_12) c (hret Try.prog [.tmp 4, .tmp 5] K) (hframe 22 args) PS) : HCall Try.prog 12 args PS K := by
  have hp : (match Try.f12.body with | some c => plansOk pu tb_12 pl_12 c | none => true) = true := by kernel_rfl
  rw [hc] at hp
  refine hcall_of_plans tb_12 pl_12 pu mixed Try.func12 hc hp ?_
  rw [Try.results12, Try.ntmps12]
  exact h
/-- orangery/orangerylaw12.awake -/
def pl_13 (n : Nat) : Plan :=
  let _ := n; .done
def tb_13 (n : Nat) : List Row :=
  let _ := n; []
theorem enter_13 {c : Code} {args : List HV} {PS : PL} {K : HV → PL → Prop} (hc : Try.f13.body = some c) (h : hvc (hop Try.prog) (drawBy Try.prog pu pl_13) c (hret Try.prog [.tmp 0] K) (hframe 104 args) PS) : HCall Try.prog 13 args PS K := by
  have hp : (match Try.f13.body with | some c => plansOk pu tb_13 pl_13 c | none => true) = true := by kernel_rfl
  rw [hc] at hp
  refine hcall_of_plans tb_13 pl_13 pu mixed Try.func13 hc hp ?_
  rw [Try.results13, Try.ntmps13]
  exact h
/-- (*orangery/store.Store).Left -/
def pl_14 (n : Nat) : Plan :=
  match n with
  | 1 => .one 0 <| .one 5 <| .one 1 <| .one 2 <| .one 3 <| .one 4 <| .alt 6 [4, 3, 2, 1] (.one 7 <| .one 8 <| .one 9 <| .done) <| .none
  | _ => .done
@[go_sem] theorem plan_14_1 : pl_14 1 = (.one 0 <| .one 5 <| .one 1 <| .one 2 <| .one 3 <| .one 4 <| .alt 6 [4, 3, 2, 1] (.one 7 <| .one 8 <| .one 9 <| .done) <| .none) := id rfl
def tb_14 (n : Nat) : List Row :=
  match n with
  | 1 => [⟨8, 1, 0, 0⟩, ⟨16, 8, 1, 1⟩, ⟨32, 16, 2, 1⟩, ⟨64, 32, 4, 2⟩, ⟨128, 64, 8, 1⟩, ⟨256, 1, 0, 0⟩, ⟨512, 256, 32, 5⟩, ⟨1024, 512, 64, 1⟩, ⟨2048, 1152, 144, 1⟩, ⟨4, 2048, 511, 0⟩]
  | _ => []
theorem enter_14 {c : Code} {args : List HV} {PS : PL} {K : HV → PL → Prop} (hc : Try.f14.body = some c) (h : hvc (hop Try.prog) (drawBy Try.prog pu pl_14) c (hret Try.prog [.tmp 2] K) (hframe 12 args) PS) : HCall Try.prog 14 args PS K := by
  have hp : (match Try.f14.body with | some c => plansOk pu tb_14 pl_14 c | none => true) = true := by kernel_rfl
  rw [hc] at hp
  refine hcall_of_plans tb_14 pl_14 pu mixed Try.func14 hc hp ?_
  rw [Try.results14, Try.ntmps14]
  exact h
/-- (*orangery/store.Store).Free -/
def pl_15 (n : Nat) : Plan :=
  let _ := n; .done
def tb_15 (n : Nat) : List Row :=
  let _ := n; []
theorem enter_15 {c : Code} {args : List HV} {PS : PL} {K : HV → PL → Prop} (hc : Try.f15.body = some c) (h : hvc (hop Try.prog) (drawBy Try.prog pu pl_15) c (hret Try.prog [.tmp 4] K) (hframe 15 args) PS) : HCall Try.prog 15 args PS K := by
  have hp : (match Try.f15.body with | some c => plansOk pu tb_15 pl_15 c | none => true) = true := by kernel_rfl
  rw [hc] at hp
  refine hcall_of_plans tb_15 pl_15 pu mixed Try.func15 hc hp ?_
  rw [Try.results15, Try.ntmps15]
  exact h
/-- orangery/orangeryref12.New -/
def pl_16 (n : Nat) : Plan :=
  match n with
  | 3 => .one 0 <| .one 2 <| .alt 1 [] (.alt 3 [] (.one 4 <| .alt 5 [] (.one 6 <| .one 7 <| .done) <| .none) <| .none) <| .alt 3 [] (.alt 1 [] (.one 4 <| .alt 5 [] (.one 6 <| .one 7 <| .done) <| .none) <| .none) <| .none
  | _ => .done
@[go_sem] theorem plan_16_3 : pl_16 3 = (.one 0 <| .one 2 <| .alt 1 [] (.alt 3 [] (.one 4 <| .alt 5 [] (.one 6 <| .one 7 <| .done) <| .none) <| .none) <| .alt 3 [] (.alt 1 [] (.one 4 <| .alt 5 [] (.one 6 <| .one 7 <| .done) <| .none) <| .none) <| .none) := id rfl
def tb_16 (n : Nat) : List Row :=
  match n with
  | 3 => [⟨1024, 1, 0, 0⟩, ⟨2048, 1024, 1, 3⟩, ⟨4096, 1, 0, 0⟩, ⟨8192, 4096, 4, 3⟩, ⟨16384, 10240, 10, 0⟩, ⟨32768, 16384, 16, 3⟩, ⟨4, 32768, 63, 0⟩, ⟨8, 0, 127, 0⟩]
  | _ => []
theorem enter_16 {c : Code} {args : List HV} {PS : PL} {K : HV → PL → Prop} (hc : Try.f16.body = some c) (h : hvc (hop Try.prog) (drawBy Try.prog pu pl_16) c (hret Try.prog [.tmp 2, .tmp 3] K) (hframe 16 args) PS) : HCall Try.prog 16 args PS K := by
  have hp : (match Try.f16.body with | some c => plansOk pu tb_16 pl_16 c | none => true) = true := by kernel_rfl
  rw [hc] at hp
  refine hcall_of_plans tb_16 pl_16 pu mixed Try.func16 hc hp ?_
  rw [Try.results16, Try.ntmps16]
  exact h
/-- (*orangery/orangeryref12.Store).Alloc -/
def pl_17 (n : Nat) : Plan :=
  match n with
  | 6 => .one 0 <| .one 1 <| .one 2 <| .one 3 <| .one 4 <| .alt 5 [] (.one 6 <| .alt 7 [] (.done) <| .none) <| .none
  | _ => .done
@[go_sem] theorem plan_17_6 : pl_17 6 = (.one 0 <| .one 1 <| .one 2 <| .one 3 <| .one 4 <| .alt 5 [] (.one 6 <| .alt 7 [] (.done) <| .none) <| .none) := id rfl
def tb_17 (n : Nat) : List Row :=
  match n with
  | 6 => [⟨268435456, 1, 0, 0⟩, ⟨536870912, 268435456, 1, 1⟩, ⟨1073741824, 536870912, 2, 1⟩, ⟨2147483648, 1073741824, 4, 2⟩, ⟨4294967296, 16, 0, 0⟩, ⟨8589934592, 0, 0, 3⟩, ⟨17179869184, 6442450944, 63, 1⟩, ⟨0, 25769803776, 127, 4⟩]
  | _ => []
theorem enter_17 {c : Code} {args : List HV} {PS : PL} {K : HV → PL → Prop} (hc : Try.f17.body = some c) (h : hvc (hop Try.prog) (drawBy Try.prog pu pl_17) c (hret Try.prog [.tmp 2, .tmp 3] K) (hframe 36 args) PS) : HCall Try.prog 17 args PS K := by
  have hp : (match Try.f17.body with | some c => plansOk pu tb_17 pl_17 c | none => true) = true := by kernel_rfl
  rw [hc] at hp
  refine hcall_of_plans tb_17 pl_17 pu mixed Try.func17 hc hp ?_
  rw [Try.results17, Try.ntmps17]
  exact h
/-- (*orangery/orangeryref12.Store).Free -/
def pl_18 (n : Nat) : Plan :=
  let _ := n; .done
def tb_18 (n : Nat) : List Row :=
  let _ := n; []
theorem enter_18 {c : Code} {args : List HV} {PS : PL} {K : HV → PL → Prop} (hc : Try.f18.body = some c) (h : hvc (hop Try.prog) (drawBy Try.prog pu pl_18) c (hret Try.prog [.tmp 4] K) (hframe 15 args) PS) : HCall Try.prog 18 args PS K := by
  have hp : (match Try.f18.body with | some c => plansOk pu tb_18 pl_18 c | none => true) = true := by kernel_rfl
  rw [hc] at hp
  refine hcall_of_plans tb_18 pl_18 pu mixed Try.func18 hc hp ?_
  rw [Try.results18, Try.ntmps18]
  exact h
/-- (*orangery/orangeryref12.Store).Write -/
def pl_19 (n : Nat) : Plan :=
  match n with
  | 5 => .one 0 <| .one 4 <| .one 5 <| .one 6 <| .one 1 <| .one 2 <| .one 3 <| .alt 7 [3, 2, 1] (.one 8 <| .alt 9 [] (.done) <| .none) <| .none
  | _ => .done
@[go_sem] theorem plan_19_5 : pl_19 5 = (.one 0 <| .one 4 <| .one 5 <| .one 6 <| .one 1 <| .one 2 <| .one 3 <| .alt 7 [3, 2, 1] (.one 8 <| .alt 9 [] (.done) <| .none) <| .none) := id rfl
def tb_19 (n : Nat) : List Row :=
  match n with
  | 5 => [⟨16384, 1, 0, 0⟩, ⟨32768, 16384, 1, 1⟩, ⟨65536, 32768, 2, 1⟩, ⟨131072, 65536, 4, 2⟩, ⟨262144, 2, 0, 0⟩, ⟨524288, 0, 0, 0⟩, ⟨1048576, 4, 0, 0⟩, ⟨2097152, 1572864, 96, 5⟩, ⟨4194304, 393216, 255, 1⟩, ⟨0, 6291456, 511, 4⟩]
  | _ => []
theorem enter_19 {c : Code} {args : List HV} {PS : PL} {K : HV → PL → Prop} (hc : Try.f19.body = some c) (h : hvc (hop Try.prog) (drawBy Try.prog pu pl_19) c (hret Try.prog [.tmp 6] K) (hframe 23 args) PS) : HCall Try.prog 19 args PS K := by
  have hp : (match Try.f19.body with | some c => plansOk pu tb_19 pl_19 c | none => true) = true := by kernel_rfl
  rw [hc] at hp
  refine hcall_of_plans tb_19 pl_19 pu mixed Try.func19 hc hp ?_
  rw [Try.results19, Try.ntmps19]
  exact h
/-- (*orangery/orangeryref12.Store).Read -/
def pl_20 (n : Nat) : Plan :=
  let _ := n; .done
def tb_20 (n : Nat) : List Row :=
  let _ := n; []
theorem enter_20 {c : Code} {args : List HV} {PS : PL} {K : HV → PL → Prop} (hc : Try.f20.body = some c) (h : hvc (hop Try.prog) (drawBy Try.prog pu pl_20) c (hret Try.prog [.tmp 4, .tmp 5] K) (hframe 19 args) PS) : HCall Try.prog 20 args PS K := by
  have hp : (match Try.f20.body with | some c => plansOk pu tb_20 pl_20 c | none => true) = true := by kernel_rfl
  rw [hc] at hp
  refine hcall_of_plans tb_20 pl_20 pu mixed Try.func20 hc hp ?_
  rw [Try.results20, Try.ntmps20]
  exact h
/-- (*orangery/store.Store).Copy -/
def pl_21 (n : Nat) : Plan :=
  match n with
  | 1 => .one 0 <| .one 1 <| .one 2 <| .one 3 <| .one 5 <| .one 6 <| .one 7 <| .one 8 <| .alt 4 [8, 7, 6] (.alt 9 [] (.one 10 <| .alt 11 [] (.one 12 <| .done) <| .none) <| .none) <| .none
  | _ => .done
@[go_sem] theorem plan_21_1 : pl_21 1 = (.one 0 <| .one 1 <| .one 2 <| .one 3 <| .one 5 <| .one 6 <| .one 7 <| .one 8 <| .alt 4 [8, 7, 6] (.alt 9 [] (.one 10 <| .alt 11 [] (.one 12 <| .done) <| .none) <| .none) <| .none) := id rfl
def tb_21 (n : Nat) : List Row :=
  match n with
  | 1 => [⟨8, 1, 0, 0⟩, ⟨16, 8, 1, 1⟩, ⟨32, 16, 2, 1⟩, ⟨64, 32, 4, 2⟩, ⟨128, 64, 8, 5⟩, ⟨256, 1, 0, 0⟩, ⟨512, 256, 32, 1⟩, ⟨1024, 512, 64, 1⟩, ⟨2048, 1024, 128, 2⟩, ⟨4096, 2048, 272, 5⟩, ⟨8192, 4224, 528, 0⟩, ⟨16384, 8192, 1024, 3⟩, ⟨4, 16384, 4095, 0⟩]
  | _ => []
theorem enter_21 {c : Code} {args : List HV} {PS : PL} {K : HV → PL → Prop} (hc : Try.f21.body = some c) (h : hvc (hop Try.prog) (drawBy Try.prog pu pl_21) c (hret Try.prog [.tmp 2] K) (hframe 15 args) PS) : HCall Try.prog 21 args PS K := by
  have hp : (match Try.f21.body with | some c => plansOk pu tb_21 pl_21 c | none => true) = true := by kernel_rfl
  rw [hc] at hp
  refine hcall_of_plans tb_21 pl_21 pu mixed Try.func21 hc hp ?_
  rw [Try.results21, Try.ntmps21]
  exact h
/-- orangery/orangeryref08.SameInts -/
def pl_22 (n : Nat) : Plan :=
  match n with
  | 6 => .one 0 <| .one 1 <| .one 2 <| .one 3 <| .one 4 <| .one 5 <| .one 6 <| .one 7 <| .one 8 <| .done
  | _ => .done
@[go_sem] theorem plan_22_6 : pl_22 6 = (.one 0 <| .one 1 <| .one 2 <| .one 3 <| .one 4 <| .one 5 <| .one 6 <| .one 7 <| .one 8 <| .done) := id rfl
def tb_22 (n : Nat) : List Row :=
  match n with
  | 6 => [⟨131072, 1, 0, 0⟩, ⟨262144, 32, 0, 0⟩, ⟨524288, 393216, 3, 1⟩, ⟨1048576, 524288, 4, 2⟩, ⟨2097152, 2, 0, 0⟩, ⟨4194304, 32, 0, 0⟩, ⟨8388608, 6291456, 48, 1⟩, ⟨16777216, 8388608, 64, 2⟩, ⟨33554432, 17825792, 136, 1⟩]
  | _ => []
theorem enter_22 {c : Code} {args : List HV} {PS : PL} {K : HV → PL → Prop} (hc : Try.f22.body = some c) (h : hvc (hop Try.prog) (drawBy Try.prog pu pl_22) c (hret Try.prog [.tmp 4] K) (hframe 26 args) PS) : HCall Try.prog 22 args PS K := by
  have hp : (match Try.f22.body with | some c => plansOk pu tb_22 pl_22 c | none => true) = true := by kernel_rfl
  rw [hc] at hp
  refine hcall_of_plans tb_22 pl_22 pu mixed Try.func22 hc hp ?_
  rw [Try.results22, Try.ntmps22]
  exact h
/-- (*orangery/store.Store).Used -/
def pl_23 (n : Nat) : Plan :=
  let _ := n; .done
def tb_23 (n : Nat) : List Row :=
  let _ := n; []
theorem enter_23 {c : Code} {args : List HV} {PS : PL} {K : HV → PL → Prop} (hc : Try.f23.body = some c) (h : hvc (hop Try.prog) (drawBy Try.prog pu pl_23) c (hret Try.prog [.tmp 2] K) (hframe 23 args) PS) : HCall Try.prog 23 args PS K := by
  have hp : (match Try.f23.body with | some c => plansOk pu tb_23 pl_23 c | none => true) = true := by kernel_rfl
  rw [hc] at hp
  refine hcall_of_plans tb_23 pl_23 pu mixed Try.func23 hc hp ?_
  rw [Try.results23, Try.ntmps23]
  exact h
/-- (*orangery/orangeryref12.Store).Used -/
def pl_24 (n : Nat) : Plan :=
  let _ := n; .done
def tb_24 (n : Nat) : List Row :=
  let _ := n; []
theorem enter_24 {c : Code} {args : List HV} {PS : PL} {K : HV → PL → Prop} (hc : Try.f24.body = some c) (h : hvc (hop Try.prog) (drawBy Try.prog pu pl_24) c (hret Try.prog [.tmp 2] K) (hframe 26 args) PS) : HCall Try.prog 24 args PS K := by
  have hp : (match Try.f24.body with | some c => plansOk pu tb_24 pl_24 c | none => true) = true := by kernel_rfl
  rw [hc] at hp
  refine hcall_of_plans tb_24 pl_24 pu mixed Try.func24 hc hp ?_
  rw [Try.results24, Try.ntmps24]
  exact h
/-- (*orangery/orangeryref12.Store).Left -/
def pl_25 (n : Nat) : Plan :=
  match n with
  | 1 => .one 0 <| .one 5 <| .one 1 <| .one 2 <| .one 3 <| .one 4 <| .alt 6 [4, 3, 2, 1] (.one 7 <| .one 8 <| .one 9 <| .done) <| .none
  | _ => .done
@[go_sem] theorem plan_25_1 : pl_25 1 = (.one 0 <| .one 5 <| .one 1 <| .one 2 <| .one 3 <| .one 4 <| .alt 6 [4, 3, 2, 1] (.one 7 <| .one 8 <| .one 9 <| .done) <| .none) := id rfl
def tb_25 (n : Nat) : List Row :=
  match n with
  | 1 => [⟨8, 1, 0, 0⟩, ⟨16, 8, 1, 1⟩, ⟨32, 16, 2, 1⟩, ⟨64, 32, 4, 2⟩, ⟨128, 64, 8, 1⟩, ⟨256, 1, 0, 0⟩, ⟨512, 256, 32, 5⟩, ⟨1024, 512, 64, 1⟩, ⟨2048, 1152, 144, 1⟩, ⟨4, 2048, 511, 0⟩]
  | _ => []
theorem enter_25 {c : Code} {args : List HV} {PS : PL} {K : HV → PL → Prop} (hc : Try.f25.body = some c) (h : hvc (hop Try.prog) (drawBy Try.prog pu pl_25) c (hret Try.prog [.tmp 2] K) (hframe 12 args) PS) : HCall Try.prog 25 args PS K := by
  have hp : (match Try.f25.body with | some c => plansOk pu tb_25 pl_25 c | none => true) = true := by kernel_rfl
  rw [hc] at hp
  refine hcall_of_plans tb_25 pl_25 pu mixed Try.func25 hc hp ?_
  rw [Try.results25, Try.ntmps25]
  exact h
/-- orangery/orangerylaw12.reads -/
def pl_26 (n : Nat) : Plan :=
  let _ := n; .done
def tb_26 (n : Nat) : List Row :=
  let _ := n; []
theorem enter_26 {c : Code} {args : List HV} {PS : PL} {K : HV → PL → Prop} (hc : Try.f26.body = some c) (h : hvc (hop Try.prog) (drawBy Try.prog pu pl_26) c (hret Try.prog [.tmp 6] K) (hframe 39 args) PS) : HCall Try.prog 26 args PS K := by
  have hp : (match Try.f26.body with | some c => plansOk pu tb_26 pl_26 c | none => true) = true := by kernel_rfl
  rw [hc] at hp
  refine hcall_of_plans tb_26 pl_26 pu mixed Try.func26 hc hp ?_
  rw [Try.results26, Try.ntmps26]
  exact h
/-- (*orangery/store.Store).is -/
def pl_27 (n : Nat) : Plan :=
  let _ := n; .done
def tb_27 (n : Nat) : List Row :=
  let _ := n; []
theorem enter_27 {c : Code} {args : List HV} {PS : PL} {K : HV → PL → Prop} (hc : Try.f27.body = some c) (h : hvc (hop Try.prog) (drawBy Try.prog pu pl_27) c (hret Try.prog [.tmp 4] K) (hframe 25 args) PS) : HCall Try.prog 27 args PS K := by
  have hp : (match Try.f27.body with | some c => plansOk pu tb_27 pl_27 c | none => true) = true := by kernel_rfl
  rw [hc] at hp
  refine hcall_of_plans tb_27 pl_27 pu mixed Try.func27 hc hp ?_
  rw [Try.results27, Try.ntmps27]
  exact h
/-- (*orangery/orangeryref12.Store).there -/
def pl_28 (n : Nat) : Plan :=
  let _ := n; .done
def tb_28 (n : Nat) : List Row :=
  let _ := n; []
theorem enter_28 {c : Code} {args : List HV} {PS : PL} {K : HV → PL → Prop} (hc : Try.f28.body = some c) (h : hvc (hop Try.prog) (drawBy Try.prog pu pl_28) c (hret Try.prog [.tmp 4] K) (hframe 25 args) PS) : HCall Try.prog 28 args PS K := by
  have hp : (match Try.f28.body with | some c => plansOk pu tb_28 pl_28 c | none => true) = true := by kernel_rfl
  rw [hc] at hp
  refine hcall_of_plans tb_28 pl_28 pu mixed Try.func28 hc hp ?_
  rw [Try.results28, Try.ntmps28]
  exact h
end Go.Proofs.Ytpegkffdhpdciaa
