/-
  The law HallAllocs, run: of each rest of its numbers.
  No conditions.
-/
import Derived.Test.YthmjdhonafnabaaGreatRunL
namespace Go.Proofs.YthmjdhonafnabaaGreat
open Go Go.Eng
set_option maxRecDepth 100000
theorem allocs_00 : HCall Tryz.prog 4 [.any .i64 4 0, .any .i64 4 0, .any .i64 1 0] [] fun r _ => r = .bool true := true17 (fuel := 100000) (d := 60) (by kernel_rfl)
theorem allocs_01 : HCall Tryz.prog 4 [.any .i64 4 0, .any .i64 4 1, .any .i64 1 0] [] fun r _ => r = .bool true := true17 (fuel := 100000) (d := 60) (by kernel_rfl)
theorem allocs_02 : HCall Tryz.prog 4 [.any .i64 4 0, .any .i64 4 2, .any .i64 1 0] [] fun r _ => r = .bool true := true17 (fuel := 100000) (d := 60) (by kernel_rfl)
theorem allocs_03 : HCall Tryz.prog 4 [.any .i64 4 0, .any .i64 4 3, .any .i64 1 0] [] fun r _ => r = .bool true := true17 (fuel := 100000) (d := 60) (by kernel_rfl)
end Go.Proofs.YthmjdhonafnabaaGreat
