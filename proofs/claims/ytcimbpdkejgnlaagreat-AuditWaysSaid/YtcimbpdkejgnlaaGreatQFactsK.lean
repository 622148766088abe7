/-
  Facts of the program, printed by a program of mine: walks.
  No conditions.
-/
import Derived.Test.YtcimbpdkejgnlaaGreatQFactsT
import Derived.Test.YtcimbpdkejgnlaaGreatQEngW
set_option linter.unusedSectionVars false
set_option linter.unusedSimpArgs false
set_option linter.unusedVariables false
namespace Go.Proofs.YtcimbpdkejgnlaaGreat
open Go Go.Eng
set_option maxRecDepth 20000
variable [Toks]
theorem enter_333 : Ent 333 Tryz.f333 pl0 [.tmp 4] 17 := ent tb0 Tryz.func333 Tryz.results333 Tryz.ntmps333 (by kernel_rfl)
theorem enter_399 : Ent 399 Tryz.f399 pl0 [.tmp 2] 6 := ent tb0 Tryz.func399 Tryz.results399 Tryz.ntmps399 (by kernel_rfl)
theorem enter_130 : Ent 130 Tryz.f130 pl0 [] 11 := ent tb0 Tryz.func130 Tryz.results130 Tryz.ntmps130 (by kernel_rfl)
def pl_327 (n : Nat) : Plan :=
  match n with
  | 4 => .one 0 <| .one 1 <| .one 2 <| .one 3 <| .one 4 <| .one 5 <| .one 6 <| .one 7 <| .one 8 <| .one 9 <| .one 10 <| .one 11 <| .one 12 <| .alt 13 [] (.one 14 <| .done) <| .none
  | 6 => .one 0 <| .one 1 <| .one 2 <| .one 3 <| .one 4 <| .one 5 <| .one 6 <| .one 7 <| .one 8 <| .one 9 <| .one 10 <| .one 11 <| .one 12 <| .one 13 <| .one 14 <| .alt 15 [] (.one 16 <| .alt 17 [] (.done) <| .none) <| .none
  | _ => .done
@[go_sem] theorem plan_327_4 : pl_327 4 = (.one 0 <| .one 1 <| .one 2 <| .one 3 <| .one 4 <| .one 5 <| .one 6 <| .one 7 <| .one 8 <| .one 9 <| .one 10 <| .one 11 <| .one 12 <| .alt 13 [] (.one 14 <| .done) <| .none) := id rfl
@[go_sem] theorem plan_327_6 : pl_327 6 = (.one 0 <| .one 1 <| .one 2 <| .one 3 <| .one 4 <| .one 5 <| .one 6 <| .one 7 <| .one 8 <| .one 9 <| .one 10 <| .one 11 <| .one 12 <| .one 13 <| .one 14 <| .alt 15 [] (.one 16 <| .alt 17 [] (.done) <| .none) <| .none) := id rfl
def tb_327 (n : Nat) : List Row :=
  match n with
  | 4 => [⟨65536, 128, 0, 0⟩, ⟨131072, 2, 0, 0⟩, ⟨262144, 196608, 3, 1⟩, ⟨524288, 262144, 4, 0⟩, ⟨1048576, 524289, 8, 0⟩, ⟨2097152, 524416, 8, 0⟩, ⟨4194304, 3670016, 56, 1⟩, ⟨8388608, 4718592, 72, 2⟩, ⟨16777216, 524289, 8, 0⟩, ⟨33554432, 524416, 8, 0⟩, ⟨67108864, 34078720, 520, 1⟩, ⟨134217728, 84410368, 1288, 1⟩, ⟨268435456, 134742016, 2056, 2⟩, ⟨536870912, 277348352, 4232, 5⟩, ⟨1073741824, 537395200, 8200, 0⟩]
  | 6 => [⟨8589934592, 1, 0, 0⟩, ⟨17179869184, 128, 0, 0⟩, ⟨34359738368, 1, 0, 0⟩, ⟨68719476736, 128, 0, 0⟩, ⟨137438953472, 68719476736, 8, 1⟩, ⟨274877906944, 1, 0, 0⟩, ⟨549755813888, 128, 0, 0⟩, ⟨1099511627776, 549755813888, 64, 1⟩, ⟨2199023255552, 1374389534720, 160, 1⟩, ⟨4398046511104, 2199023255552, 256, 2⟩, ⟨8796093022208, 1, 0, 0⟩, ⟨17592186044416, 128, 0, 0⟩, ⟨35184372088832, 26388279066624, 3072, 1⟩, ⟨70368744177664, 35184372088832, 4096, 2⟩, ⟨140737488355328, 25769803776, 9187, 1⟩, ⟨0, 145135534866432, 25571, 4⟩, ⟨281474976710656, 171798691840, 65535, 1⟩, ⟨0, 351843720888320, 131071, 4⟩]
  | _ => []
theorem enter_327 : Ent 327 Tryz.f327 pl_327 [] 49 := ent tb_327 Tryz.func327 Tryz.results327 Tryz.ntmps327 (by kernel_rfl)
def pl_237 (n : Nat) : Plan :=
  match n with
  | 17 => .one 0 <| .one 1 <| .one 2 <| .one 3 <| .one 4 <| .one 5 <| .one 6 <| .one 7 <| .one 8 <| .one 9 <| .one 10 <| .one 11 <| .alt 12 [] (.one 13 <| .one 14 <| .done) <| .none
  | _ => .done
@[go_sem] theorem plan_237_17 : pl_237 17 = (.one 0 <| .one 1 <| .one 2 <| .one 3 <| .one 4 <| .one 5 <| .one 6 <| .one 7 <| .one 8 <| .one 9 <| .one 10 <| .one 11 <| .alt 12 [] (.one 13 <| .one 14 <| .done) <| .none) := id rfl
def tb_237 (n : Nat) : List Row :=
  match n with
  | 17 => [⟨9444732965739290427392, 2, 0, 0⟩, ⟨18889465931478580854784, 9444732965739290427392, 1, 1⟩, ⟨37778931862957161709568, 18889465931478580854784, 2, 0⟩, ⟨75557863725914323419136, 37778931862957161709569, 4, 0⟩, ⟨151115727451828646838272, 37778931862957161709570, 4, 0⟩, ⟨302231454903657293676544, 188894659314785808547840, 20, 1⟩, ⟨604462909807314587353088, 415568250492528778805248, 44, 1⟩, ⟨1208925819614629174706176, 642241841670271749062656, 68, 2⟩, ⟨2417851639229258349412352, 37778931862957161709569, 4, 0⟩, ⟨4835703278458516698824704, 37778931862957161711616, 4, 0⟩, ⟨9671406556917033397649408, 7291333849550732209946624, 772, 1⟩, ⟨19342813113834066795298816, 9709185488779990559358976, 1028, 2⟩, ⟨38685626227668133590597632, 20589517865311653131714560, 2180, 5⟩, ⟨77371252455336267181195264, 38723405159531090752307200, 4100, 0⟩, ⟨154742504910672534362390528, 77409031387199224342904832, 8196, 0⟩]
  | _ => []
theorem enter_237 : Ent 237 Tryz.f237 pl_237 [] 134 := ent tb_237 Tryz.func237 Tryz.results237 Tryz.ntmps237 (by kernel_rfl)
theorem enter_39 : Ent 39 Tryz.f39 pl0 [.tmp 2] 19 := ent tb0 Tryz.func39 Tryz.results39 Tryz.ntmps39 (by kernel_rfl)
end Go.Proofs.YtcimbpdkejgnlaaGreat
