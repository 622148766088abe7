/-
  The law HallAllocs: of whatever numbers.
  No conditions.
-/
import Derived.Test.YthmjdhonafnabaaGreatRunM0
import Derived.Test.YthmjdhonafnabaaGreatRunM1
import Derived.Test.YthmjdhonafnabaaGreatRunM2
import Derived.Test.YthmjdhonafnabaaGreatRunM3
namespace Go.Proofs.YthmjdhonafnabaaGreat
open Go Go.Eng
theorem allocs_ (a b c : Int) : HCall Tryz.prog 4 [.int .i64 a, .int .i64 b, .int .i64 c] [] fun r _ => r = .bool true := by
  refine HCall.spec (pre := []) (r := a % 4) rfl (HCall.spec (pre := [_]) (r := b % 4) rfl (HCall.spec (pre := [_, _]) (q := 1) (r := 0) (by omega) ?_))
  have h1 : a % 4 = 0 ∨ a % 4 = 1 ∨ a % 4 = 2 ∨ a % 4 = 3 := by omega
  have h2 : b % 4 = 0 ∨ b % 4 = 1 ∨ b % 4 = 2 ∨ b % 4 = 3 := by omega
  rcases h1 with h1 | h1 | h1 | h1 <;> rcases h2 with h2 | h2 | h2 | h2 <;> rw [h1, h2]
  · exact allocs_00
  · exact allocs_01
  · exact allocs_02
  · exact allocs_03
  · exact allocs_10
  · exact allocs_11
  · exact allocs_12
  · exact allocs_13
  · exact allocs_20
  · exact allocs_21
  · exact allocs_22
  · exact allocs_23
  · exact allocs_30
  · exact allocs_31
  · exact allocs_32
  · exact allocs_33
end Go.Proofs.YthmjdhonafnabaaGreat
