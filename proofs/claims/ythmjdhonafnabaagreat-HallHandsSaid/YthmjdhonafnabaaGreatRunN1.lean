/-
  The law HallHands, run: at rows of at most six bools.
  No conditions.
-/
import Derived.Test.YthmjdhonafnabaaGreatRunL
namespace Go.Proofs.YthmjdhonafnabaaGreat
open Go Go.Eng
set_option maxRecDepth 100000
theorem hands_ffffft : HCall Tryz.prog 3 [.imm false [[.bool false], [.bool false], [.bool false], [.bool false], [.bool false], [.bool true]]] [] fun r _ => r = .bool true := true17 (fuel := 100000) (d := 60) (by kernel_rfl)
theorem hands_fffft : HCall Tryz.prog 3 [.imm false [[.bool false], [.bool false], [.bool false], [.bool false], [.bool true]]] [] fun r _ => r = .bool true := true17 (fuel := 100000) (d := 60) (by kernel_rfl)
theorem hands_ffft : HCall Tryz.prog 3 [.imm false [[.bool false], [.bool false], [.bool false], [.bool true]]] [] fun r _ => r = .bool true := true17 (fuel := 100000) (d := 60) (by kernel_rfl)
theorem hands_fft : HCall Tryz.prog 3 [.imm false [[.bool false], [.bool false], [.bool true]]] [] fun r _ => r = .bool true := true17 (fuel := 100000) (d := 60) (by kernel_rfl)
theorem hands_fftfft : HCall Tryz.prog 3 [.imm false [[.bool false], [.bool false], [.bool true], [.bool false], [.bool false], [.bool true]]] [] fun r _ => r = .bool true := true17 (fuel := 100000) (d := 60) (by kernel_rfl)
theorem hands_ft : HCall Tryz.prog 3 [.imm false [[.bool false], [.bool true]]] [] fun r _ => r = .bool true := true17 (fuel := 100000) (d := 60) (by kernel_rfl)
theorem hands_ftffft : HCall Tryz.prog 3 [.imm false [[.bool false], [.bool true], [.bool false], [.bool false], [.bool false], [.bool true]]] [] fun r _ => r = .bool true := true17 (fuel := 100000) (d := 60) (by kernel_rfl)
theorem hands_ftfft : HCall Tryz.prog 3 [.imm false [[.bool false], [.bool true], [.bool false], [.bool false], [.bool true]]] [] fun r _ => r = .bool true := true17 (fuel := 100000) (d := 60) (by kernel_rfl)
theorem hands_fttfft : HCall Tryz.prog 3 [.imm false [[.bool false], [.bool true], [.bool true], [.bool false], [.bool false], [.bool true]]] [] fun r _ => r = .bool true := true17 (fuel := 100000) (d := 60) (by kernel_rfl)
theorem hands_tfffft : HCall Tryz.prog 3 [.imm false [[.bool true], [.bool false], [.bool false], [.bool false], [.bool false], [.bool true]]] [] fun r _ => r = .bool true := true17 (fuel := 100000) (d := 60) (by kernel_rfl)
theorem hands_tffft : HCall Tryz.prog 3 [.imm false [[.bool true], [.bool false], [.bool false], [.bool false], [.bool true]]] [] fun r _ => r = .bool true := true17 (fuel := 100000) (d := 60) (by kernel_rfl)
theorem hands_tfft : HCall Tryz.prog 3 [.imm false [[.bool true], [.bool false], [.bool false], [.bool true]]] [] fun r _ => r = .bool true := true17 (fuel := 100000) (d := 60) (by kernel_rfl)
theorem hands_tftfft : HCall Tryz.prog 3 [.imm false [[.bool true], [.bool false], [.bool true], [.bool false], [.bool false], [.bool true]]] [] fun r _ => r = .bool true := true17 (fuel := 100000) (d := 60) (by kernel_rfl)
theorem hands_ttffft : HCall Tryz.prog 3 [.imm false [[.bool true], [.bool true], [.bool false], [.bool false], [.bool false], [.bool true]]] [] fun r _ => r = .bool true := true17 (fuel := 100000) (d := 60) (by kernel_rfl)
theorem hands_ttfft : HCall Tryz.prog 3 [.imm false [[.bool true], [.bool true], [.bool false], [.bool false], [.bool true]]] [] fun r _ => r = .bool true := true17 (fuel := 100000) (d := 60) (by kernel_rfl)
theorem hands_tttfft : HCall Tryz.prog 3 [.imm false [[.bool true], [.bool true], [.bool true], [.bool false], [.bool false], [.bool true]]] [] fun r _ => r = .bool true := true17 (fuel := 100000) (d := 60) (by kernel_rfl)
end Go.Proofs.YthmjdhonafnabaaGreat
