/-
  The law HallHands, run: at rows of at most six bools.
  No conditions.
-/
import Derived.Test.YthmjdhonafnabaaGreatRunL
namespace Go.Proofs.YthmjdhonafnabaaGreat
open Go Go.Eng
set_option maxRecDepth 100000
theorem hands_fffttt : HCall Tryz.prog 3 [.imm false [[.bool false], [.bool false], [.bool false], [.bool true], [.bool true], [.bool true]]] [] fun r _ => r = .bool true := true17 (fuel := 100000) (d := 60) (by kernel_rfl)
theorem hands_ffttt : HCall Tryz.prog 3 [.imm false [[.bool false], [.bool false], [.bool true], [.bool true], [.bool true]]] [] fun r _ => r = .bool true := true17 (fuel := 100000) (d := 60) (by kernel_rfl)
theorem hands_fftttt : HCall Tryz.prog 3 [.imm false [[.bool false], [.bool false], [.bool true], [.bool true], [.bool true], [.bool true]]] [] fun r _ => r = .bool true := true17 (fuel := 100000) (d := 60) (by kernel_rfl)
theorem hands_ftfttt : HCall Tryz.prog 3 [.imm false [[.bool false], [.bool true], [.bool false], [.bool true], [.bool true], [.bool true]]] [] fun r _ => r = .bool true := true17 (fuel := 100000) (d := 60) (by kernel_rfl)
theorem hands_fttt : HCall Tryz.prog 3 [.imm false [[.bool false], [.bool true], [.bool true], [.bool true]]] [] fun r _ => r = .bool true := true17 (fuel := 100000) (d := 60) (by kernel_rfl)
theorem hands_ftttt : HCall Tryz.prog 3 [.imm false [[.bool false], [.bool true], [.bool true], [.bool true], [.bool true]]] [] fun r _ => r = .bool true := true17 (fuel := 100000) (d := 60) (by kernel_rfl)
theorem hands_fttttt : HCall Tryz.prog 3 [.imm false [[.bool false], [.bool true], [.bool true], [.bool true], [.bool true], [.bool true]]] [] fun r _ => r = .bool true := true17 (fuel := 100000) (d := 60) (by kernel_rfl)
theorem hands_tffttt : HCall Tryz.prog 3 [.imm false [[.bool true], [.bool false], [.bool false], [.bool true], [.bool true], [.bool true]]] [] fun r _ => r = .bool true := true17 (fuel := 100000) (d := 60) (by kernel_rfl)
theorem hands_tfttt : HCall Tryz.prog 3 [.imm false [[.bool true], [.bool false], [.bool true], [.bool true], [.bool true]]] [] fun r _ => r = .bool true := true17 (fuel := 100000) (d := 60) (by kernel_rfl)
theorem hands_tftttt : HCall Tryz.prog 3 [.imm false [[.bool true], [.bool false], [.bool true], [.bool true], [.bool true], [.bool true]]] [] fun r _ => r = .bool true := true17 (fuel := 100000) (d := 60) (by kernel_rfl)
theorem hands_ttfttt : HCall Tryz.prog 3 [.imm false [[.bool true], [.bool true], [.bool false], [.bool true], [.bool true], [.bool true]]] [] fun r _ => r = .bool true := true17 (fuel := 100000) (d := 60) (by kernel_rfl)
theorem hands_ttt : HCall Tryz.prog 3 [.imm false [[.bool true], [.bool true], [.bool true]]] [] fun r _ => r = .bool true := true17 (fuel := 100000) (d := 60) (by kernel_rfl)
theorem hands_tttt : HCall Tryz.prog 3 [.imm false [[.bool true], [.bool true], [.bool true], [.bool true]]] [] fun r _ => r = .bool true := true17 (fuel := 100000) (d := 60) (by kernel_rfl)
theorem hands_ttttt : HCall Tryz.prog 3 [.imm false [[.bool true], [.bool true], [.bool true], [.bool true], [.bool true]]] [] fun r _ => r = .bool true := true17 (fuel := 100000) (d := 60) (by kernel_rfl)
theorem hands_tttttt : HCall Tryz.prog 3 [.imm false [[.bool true], [.bool true], [.bool true], [.bool true], [.bool true], [.bool true]]] [] fun r _ => r = .bool true := true17 (fuel := 100000) (d := 60) (by kernel_rfl)
end Go.Proofs.YthmjdhonafnabaaGreat
