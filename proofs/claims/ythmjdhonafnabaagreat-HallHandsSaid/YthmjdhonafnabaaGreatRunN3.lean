/-
  The law HallHands, run: at rows of at most six bools.
  No conditions.
-/
import Derived.Test.YthmjdhonafnabaaGreatRunL
namespace Go.Proofs.YthmjdhonafnabaaGreat
open Go Go.Eng
set_option maxRecDepth 100000
theorem hands_fffftt : HCall Tryz.prog 3 [.imm false [[.bool false], [.bool false], [.bool false], [.bool false], [.bool true], [.bool true]]] [] fun r _ => r = .bool true := true17 (fuel := 100000) (d := 60) (by kernel_rfl)
theorem hands_ffftt : HCall Tryz.prog 3 [.imm false [[.bool false], [.bool false], [.bool false], [.bool true], [.bool true]]] [] fun r _ => r = .bool true := true17 (fuel := 100000) (d := 60) (by kernel_rfl)
theorem hands_fftftt : HCall Tryz.prog 3 [.imm false [[.bool false], [.bool false], [.bool true], [.bool false], [.bool true], [.bool true]]] [] fun r _ => r = .bool true := true17 (fuel := 100000) (d := 60) (by kernel_rfl)
theorem hands_fftt : HCall Tryz.prog 3 [.imm false [[.bool false], [.bool false], [.bool true], [.bool true]]] [] fun r _ => r = .bool true := true17 (fuel := 100000) (d := 60) (by kernel_rfl)
theorem hands_ftfftt : HCall Tryz.prog 3 [.imm false [[.bool false], [.bool true], [.bool false], [.bool false], [.bool true], [.bool true]]] [] fun r _ => r = .bool true := true17 (fuel := 100000) (d := 60) (by kernel_rfl)
theorem hands_ftftt : HCall Tryz.prog 3 [.imm false [[.bool false], [.bool true], [.bool false], [.bool true], [.bool true]]] [] fun r _ => r = .bool true := true17 (fuel := 100000) (d := 60) (by kernel_rfl)
theorem hands_ftt : HCall Tryz.prog 3 [.imm false [[.bool false], [.bool true], [.bool true]]] [] fun r _ => r = .bool true := true17 (fuel := 100000) (d := 60) (by kernel_rfl)
theorem hands_fttftt : HCall Tryz.prog 3 [.imm false [[.bool false], [.bool true], [.bool true], [.bool false], [.bool true], [.bool true]]] [] fun r _ => r = .bool true := true17 (fuel := 100000) (d := 60) (by kernel_rfl)
theorem hands_tffftt : HCall Tryz.prog 3 [.imm false [[.bool true], [.bool false], [.bool false], [.bool false], [.bool true], [.bool true]]] [] fun r _ => r = .bool true := true17 (fuel := 100000) (d := 60) (by kernel_rfl)
theorem hands_tfftt : HCall Tryz.prog 3 [.imm false [[.bool true], [.bool false], [.bool false], [.bool true], [.bool true]]] [] fun r _ => r = .bool true := true17 (fuel := 100000) (d := 60) (by kernel_rfl)
theorem hands_tftftt : HCall Tryz.prog 3 [.imm false [[.bool true], [.bool false], [.bool true], [.bool false], [.bool true], [.bool true]]] [] fun r _ => r = .bool true := true17 (fuel := 100000) (d := 60) (by kernel_rfl)
theorem hands_tftt : HCall Tryz.prog 3 [.imm false [[.bool true], [.bool false], [.bool true], [.bool true]]] [] fun r _ => r = .bool true := true17 (fuel := 100000) (d := 60) (by kernel_rfl)
theorem hands_tt : HCall Tryz.prog 3 [.imm false [[.bool true], [.bool true]]] [] fun r _ => r = .bool true := true17 (fuel := 100000) (d := 60) (by kernel_rfl)
theorem hands_ttfftt : HCall Tryz.prog 3 [.imm false [[.bool true], [.bool true], [.bool false], [.bool false], [.bool true], [.bool true]]] [] fun r _ => r = .bool true := true17 (fuel := 100000) (d := 60) (by kernel_rfl)
theorem hands_ttftt : HCall Tryz.prog 3 [.imm false [[.bool true], [.bool true], [.bool false], [.bool true], [.bool true]]] [] fun r _ => r = .bool true := true17 (fuel := 100000) (d := 60) (by kernel_rfl)
theorem hands_tttftt : HCall Tryz.prog 3 [.imm false [[.bool true], [.bool true], [.bool true], [.bool false], [.bool true], [.bool true]]] [] fun r _ => r = .bool true := true17 (fuel := 100000) (d := 60) (by kernel_rfl)
end Go.Proofs.YthmjdhonafnabaaGreat
