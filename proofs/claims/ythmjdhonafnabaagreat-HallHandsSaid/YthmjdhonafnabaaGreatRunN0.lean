/-
  The law HallHands, run: at rows of at most six bools.
  No conditions.
-/
import Derived.Test.YthmjdhonafnabaaGreatRunL
namespace Go.Proofs.YthmjdhonafnabaaGreat
open Go Go.Eng
set_option maxRecDepth 100000
theorem hands_ff : HCall Tryz.prog 3 [.imm false [[.bool false], [.bool false]]] [] fun r _ => r = .bool true := true17 (fuel := 100000) (d := 60) (by kernel_rfl)
theorem hands_fff : HCall Tryz.prog 3 [.imm false [[.bool false], [.bool false], [.bool false]]] [] fun r _ => r = .bool true := true17 (fuel := 100000) (d := 60) (by kernel_rfl)
theorem hands_ffff : HCall Tryz.prog 3 [.imm false [[.bool false], [.bool false], [.bool false], [.bool false]]] [] fun r _ => r = .bool true := true17 (fuel := 100000) (d := 60) (by kernel_rfl)
theorem hands_fffff : HCall Tryz.prog 3 [.imm false [[.bool false], [.bool false], [.bool false], [.bool false], [.bool false]]] [] fun r _ => r = .bool true := true17 (fuel := 100000) (d := 60) (by kernel_rfl)
theorem hands_ffffff : HCall Tryz.prog 3 [.imm false [[.bool false], [.bool false], [.bool false], [.bool false], [.bool false], [.bool false]]] [] fun r _ => r = .bool true := true17 (fuel := 100000) (d := 60) (by kernel_rfl)
theorem hands_fftfff : HCall Tryz.prog 3 [.imm false [[.bool false], [.bool false], [.bool true], [.bool false], [.bool false], [.bool false]]] [] fun r _ => r = .bool true := true17 (fuel := 100000) (d := 60) (by kernel_rfl)
theorem hands_ftfff : HCall Tryz.prog 3 [.imm false [[.bool false], [.bool true], [.bool false], [.bool false], [.bool false]]] [] fun r _ => r = .bool true := true17 (fuel := 100000) (d := 60) (by kernel_rfl)
theorem hands_ftffff : HCall Tryz.prog 3 [.imm false [[.bool false], [.bool true], [.bool false], [.bool false], [.bool false], [.bool false]]] [] fun r _ => r = .bool true := true17 (fuel := 100000) (d := 60) (by kernel_rfl)
theorem hands_fttfff : HCall Tryz.prog 3 [.imm false [[.bool false], [.bool true], [.bool true], [.bool false], [.bool false], [.bool false]]] [] fun r _ => r = .bool true := true17 (fuel := 100000) (d := 60) (by kernel_rfl)
theorem hands_tfff : HCall Tryz.prog 3 [.imm false [[.bool true], [.bool false], [.bool false], [.bool false]]] [] fun r _ => r = .bool true := true17 (fuel := 100000) (d := 60) (by kernel_rfl)
theorem hands_tffff : HCall Tryz.prog 3 [.imm false [[.bool true], [.bool false], [.bool false], [.bool false], [.bool false]]] [] fun r _ => r = .bool true := true17 (fuel := 100000) (d := 60) (by kernel_rfl)
theorem hands_tfffff : HCall Tryz.prog 3 [.imm false [[.bool true], [.bool false], [.bool false], [.bool false], [.bool false], [.bool false]]] [] fun r _ => r = .bool true := true17 (fuel := 100000) (d := 60) (by kernel_rfl)
theorem hands_tftfff : HCall Tryz.prog 3 [.imm false [[.bool true], [.bool false], [.bool true], [.bool false], [.bool false], [.bool false]]] [] fun r _ => r = .bool true := true17 (fuel := 100000) (d := 60) (by kernel_rfl)
theorem hands_ttfff : HCall Tryz.prog 3 [.imm false [[.bool true], [.bool true], [.bool false], [.bool false], [.bool false]]] [] fun r _ => r = .bool true := true17 (fuel := 100000) (d := 60) (by kernel_rfl)
theorem hands_ttffff : HCall Tryz.prog 3 [.imm false [[.bool true], [.bool true], [.bool false], [.bool false], [.bool false], [.bool false]]] [] fun r _ => r = .bool true := true17 (fuel := 100000) (d := 60) (by kernel_rfl)
theorem hands_tttfff : HCall Tryz.prog 3 [.imm false [[.bool true], [.bool true], [.bool true], [.bool false], [.bool false], [.bool false]]] [] fun r _ => r = .bool true := true17 (fuel := 100000) (d := 60) (by kernel_rfl)
end Go.Proofs.YthmjdhonafnabaaGreat
