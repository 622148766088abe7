/-
  The law HallHands, run: at rows of at most six bools.
  No conditions.
-/
import Derived.Test.YthmjdhonafnabaaGreatRunL
namespace Go.Proofs.YthmjdhonafnabaaGreat
open Go Go.Eng
set_option maxRecDepth 100000
theorem hands_ffftft : HCall Tryz.prog 3 [.imm false [[.bool false], [.bool false], [.bool false], [.bool true], [.bool false], [.bool true]]] [] fun r _ => r = .bool true := true17 (fuel := 100000) (d := 60) (by kernel_rfl)
theorem hands_fftft : HCall Tryz.prog 3 [.imm false [[.bool false], [.bool false], [.bool true], [.bool false], [.bool true]]] [] fun r _ => r = .bool true := true17 (fuel := 100000) (d := 60) (by kernel_rfl)
theorem hands_ffttft : HCall Tryz.prog 3 [.imm false [[.bool false], [.bool false], [.bool true], [.bool true], [.bool false], [.bool true]]] [] fun r _ => r = .bool true := true17 (fuel := 100000) (d := 60) (by kernel_rfl)
theorem hands_ftft : HCall Tryz.prog 3 [.imm false [[.bool false], [.bool true], [.bool false], [.bool true]]] [] fun r _ => r = .bool true := true17 (fuel := 100000) (d := 60) (by kernel_rfl)
theorem hands_ftftft : HCall Tryz.prog 3 [.imm false [[.bool false], [.bool true], [.bool false], [.bool true], [.bool false], [.bool true]]] [] fun r _ => r = .bool true := true17 (fuel := 100000) (d := 60) (by kernel_rfl)
theorem hands_fttft : HCall Tryz.prog 3 [.imm false [[.bool false], [.bool true], [.bool true], [.bool false], [.bool true]]] [] fun r _ => r = .bool true := true17 (fuel := 100000) (d := 60) (by kernel_rfl)
theorem hands_ftttft : HCall Tryz.prog 3 [.imm false [[.bool false], [.bool true], [.bool true], [.bool true], [.bool false], [.bool true]]] [] fun r _ => r = .bool true := true17 (fuel := 100000) (d := 60) (by kernel_rfl)
theorem hands_t : HCall Tryz.prog 3 [.imm false [[.bool true]]] [] fun r _ => r = .bool true := true17 (fuel := 100000) (d := 60) (by kernel_rfl)
theorem hands_tfftft : HCall Tryz.prog 3 [.imm false [[.bool true], [.bool false], [.bool false], [.bool true], [.bool false], [.bool true]]] [] fun r _ => r = .bool true := true17 (fuel := 100000) (d := 60) (by kernel_rfl)
theorem hands_tft : HCall Tryz.prog 3 [.imm false [[.bool true], [.bool false], [.bool true]]] [] fun r _ => r = .bool true := true17 (fuel := 100000) (d := 60) (by kernel_rfl)
theorem hands_tftft : HCall Tryz.prog 3 [.imm false [[.bool true], [.bool false], [.bool true], [.bool false], [.bool true]]] [] fun r _ => r = .bool true := true17 (fuel := 100000) (d := 60) (by kernel_rfl)
theorem hands_tfttft : HCall Tryz.prog 3 [.imm false [[.bool true], [.bool false], [.bool true], [.bool true], [.bool false], [.bool true]]] [] fun r _ => r = .bool true := true17 (fuel := 100000) (d := 60) (by kernel_rfl)
theorem hands_ttft : HCall Tryz.prog 3 [.imm false [[.bool true], [.bool true], [.bool false], [.bool true]]] [] fun r _ => r = .bool true := true17 (fuel := 100000) (d := 60) (by kernel_rfl)
theorem hands_ttftft : HCall Tryz.prog 3 [.imm false [[.bool true], [.bool true], [.bool false], [.bool true], [.bool false], [.bool true]]] [] fun r _ => r = .bool true := true17 (fuel := 100000) (d := 60) (by kernel_rfl)
theorem hands_tttft : HCall Tryz.prog 3 [.imm false [[.bool true], [.bool true], [.bool true], [.bool false], [.bool true]]] [] fun r _ => r = .bool true := true17 (fuel := 100000) (d := 60) (by kernel_rfl)
theorem hands_ttttft : HCall Tryz.prog 3 [.imm false [[.bool true], [.bool true], [.bool true], [.bool true], [.bool false], [.bool true]]] [] fun r _ => r = .bool true := true17 (fuel := 100000) (d := 60) (by kernel_rfl)
end Go.Proofs.YthmjdhonafnabaaGreat
