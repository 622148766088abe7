/-
  The law HallHands, run: at rows of at most six bools.
  No conditions.
-/
import Derived.Test.YthmjdhonafnabaaGreatRunL
namespace Go.Proofs.YthmjdhonafnabaaGreat
open Go Go.Eng
set_option maxRecDepth 100000
theorem hands_fffftf : HCall Tryz.prog 3 [.imm false [[.bool false], [.bool false], [.bool false], [.bool false], [.bool true], [.bool false]]] [] fun r _ => r = .bool true := true17 (fuel := 100000) (d := 60) (by kernel_rfl)
theorem hands_ffftf : HCall Tryz.prog 3 [.imm false [[.bool false], [.bool false], [.bool false], [.bool true], [.bool false]]] [] fun r _ => r = .bool true := true17 (fuel := 100000) (d := 60) (by kernel_rfl)
theorem hands_fftf : HCall Tryz.prog 3 [.imm false [[.bool false], [.bool false], [.bool true], [.bool false]]] [] fun r _ => r = .bool true := true17 (fuel := 100000) (d := 60) (by kernel_rfl)
theorem hands_fftftf : HCall Tryz.prog 3 [.imm false [[.bool false], [.bool false], [.bool true], [.bool false], [.bool true], [.bool false]]] [] fun r _ => r = .bool true := true17 (fuel := 100000) (d := 60) (by kernel_rfl)
theorem hands_ftf : HCall Tryz.prog 3 [.imm false [[.bool false], [.bool true], [.bool false]]] [] fun r _ => r = .bool true := true17 (fuel := 100000) (d := 60) (by kernel_rfl)
theorem hands_ftfftf : HCall Tryz.prog 3 [.imm false [[.bool false], [.bool true], [.bool false], [.bool false], [.bool true], [.bool false]]] [] fun r _ => r = .bool true := true17 (fuel := 100000) (d := 60) (by kernel_rfl)
theorem hands_ftftf : HCall Tryz.prog 3 [.imm false [[.bool false], [.bool true], [.bool false], [.bool true], [.bool false]]] [] fun r _ => r = .bool true := true17 (fuel := 100000) (d := 60) (by kernel_rfl)
theorem hands_fttftf : HCall Tryz.prog 3 [.imm false [[.bool false], [.bool true], [.bool true], [.bool false], [.bool true], [.bool false]]] [] fun r _ => r = .bool true := true17 (fuel := 100000) (d := 60) (by kernel_rfl)
theorem hands_tf : HCall Tryz.prog 3 [.imm false [[.bool true], [.bool false]]] [] fun r _ => r = .bool true := true17 (fuel := 100000) (d := 60) (by kernel_rfl)
theorem hands_tffftf : HCall Tryz.prog 3 [.imm false [[.bool true], [.bool false], [.bool false], [.bool false], [.bool true], [.bool false]]] [] fun r _ => r = .bool true := true17 (fuel := 100000) (d := 60) (by kernel_rfl)
theorem hands_tfftf : HCall Tryz.prog 3 [.imm false [[.bool true], [.bool false], [.bool false], [.bool true], [.bool false]]] [] fun r _ => r = .bool true := true17 (fuel := 100000) (d := 60) (by kernel_rfl)
theorem hands_tftf : HCall Tryz.prog 3 [.imm false [[.bool true], [.bool false], [.bool true], [.bool false]]] [] fun r _ => r = .bool true := true17 (fuel := 100000) (d := 60) (by kernel_rfl)
theorem hands_tftftf : HCall Tryz.prog 3 [.imm false [[.bool true], [.bool false], [.bool true], [.bool false], [.bool true], [.bool false]]] [] fun r _ => r = .bool true := true17 (fuel := 100000) (d := 60) (by kernel_rfl)
theorem hands_ttfftf : HCall Tryz.prog 3 [.imm false [[.bool true], [.bool true], [.bool false], [.bool false], [.bool true], [.bool false]]] [] fun r _ => r = .bool true := true17 (fuel := 100000) (d := 60) (by kernel_rfl)
theorem hands_ttftf : HCall Tryz.prog 3 [.imm false [[.bool true], [.bool true], [.bool false], [.bool true], [.bool false]]] [] fun r _ => r = .bool true := true17 (fuel := 100000) (d := 60) (by kernel_rfl)
theorem hands_tttftf : HCall Tryz.prog 3 [.imm false [[.bool true], [.bool true], [.bool true], [.bool false], [.bool true], [.bool false]]] [] fun r _ => r = .bool true := true17 (fuel := 100000) (d := 60) (by kernel_rfl)
end Go.Proofs.YthmjdhonafnabaaGreat
