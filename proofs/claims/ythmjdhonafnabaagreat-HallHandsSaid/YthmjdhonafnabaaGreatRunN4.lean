/-
  The law HallHands, run: at rows of at most six bools.
  No conditions.
-/
import Derived.Test.YthmjdhonafnabaaGreatRunL
namespace Go.Proofs.YthmjdhonafnabaaGreat
open Go Go.Eng
set_option maxRecDepth 100000
theorem hands_f : HCall Tryz.prog 3 [.imm false [[.bool false]]] [] fun r _ => r = .bool true := true17 (fuel := 100000) (d := 60) (by kernel_rfl)
theorem hands_ffftff : HCall Tryz.prog 3 [.imm false [[.bool false], [.bool false], [.bool false], [.bool true], [.bool false], [.bool false]]] [] fun r _ => r = .bool true := true17 (fuel := 100000) (d := 60) (by kernel_rfl)
theorem hands_fftff : HCall Tryz.prog 3 [.imm false [[.bool false], [.bool false], [.bool true], [.bool false], [.bool false]]] [] fun r _ => r = .bool true := true17 (fuel := 100000) (d := 60) (by kernel_rfl)
theorem hands_ffttff : HCall Tryz.prog 3 [.imm false [[.bool false], [.bool false], [.bool true], [.bool true], [.bool false], [.bool false]]] [] fun r _ => r = .bool true := true17 (fuel := 100000) (d := 60) (by kernel_rfl)
theorem hands_ftff : HCall Tryz.prog 3 [.imm false [[.bool false], [.bool true], [.bool false], [.bool false]]] [] fun r _ => r = .bool true := true17 (fuel := 100000) (d := 60) (by kernel_rfl)
theorem hands_ftftff : HCall Tryz.prog 3 [.imm false [[.bool false], [.bool true], [.bool false], [.bool true], [.bool false], [.bool false]]] [] fun r _ => r = .bool true := true17 (fuel := 100000) (d := 60) (by kernel_rfl)
theorem hands_fttff : HCall Tryz.prog 3 [.imm false [[.bool false], [.bool true], [.bool true], [.bool false], [.bool false]]] [] fun r _ => r = .bool true := true17 (fuel := 100000) (d := 60) (by kernel_rfl)
theorem hands_ftttff : HCall Tryz.prog 3 [.imm false [[.bool false], [.bool true], [.bool true], [.bool true], [.bool false], [.bool false]]] [] fun r _ => r = .bool true := true17 (fuel := 100000) (d := 60) (by kernel_rfl)
theorem hands_tff : HCall Tryz.prog 3 [.imm false [[.bool true], [.bool false], [.bool false]]] [] fun r _ => r = .bool true := true17 (fuel := 100000) (d := 60) (by kernel_rfl)
theorem hands_tfftff : HCall Tryz.prog 3 [.imm false [[.bool true], [.bool false], [.bool false], [.bool true], [.bool false], [.bool false]]] [] fun r _ => r = .bool true := true17 (fuel := 100000) (d := 60) (by kernel_rfl)
theorem hands_tftff : HCall Tryz.prog 3 [.imm false [[.bool true], [.bool false], [.bool true], [.bool false], [.bool false]]] [] fun r _ => r = .bool true := true17 (fuel := 100000) (d := 60) (by kernel_rfl)
theorem hands_tfttff : HCall Tryz.prog 3 [.imm false [[.bool true], [.bool false], [.bool true], [.bool true], [.bool false], [.bool false]]] [] fun r _ => r = .bool true := true17 (fuel := 100000) (d := 60) (by kernel_rfl)
theorem hands_ttff : HCall Tryz.prog 3 [.imm false [[.bool true], [.bool true], [.bool false], [.bool false]]] [] fun r _ => r = .bool true := true17 (fuel := 100000) (d := 60) (by kernel_rfl)
theorem hands_ttftff : HCall Tryz.prog 3 [.imm false [[.bool true], [.bool true], [.bool false], [.bool true], [.bool false], [.bool false]]] [] fun r _ => r = .bool true := true17 (fuel := 100000) (d := 60) (by kernel_rfl)
theorem hands_tttff : HCall Tryz.prog 3 [.imm false [[.bool true], [.bool true], [.bool true], [.bool false], [.bool false]]] [] fun r _ => r = .bool true := true17 (fuel := 100000) (d := 60) (by kernel_rfl)
theorem hands_ttttff : HCall Tryz.prog 3 [.imm false [[.bool true], [.bool true], [.bool true], [.bool true], [.bool false], [.bool false]]] [] fun r _ => r = .bool true := true17 (fuel := 100000) (d := 60) (by kernel_rfl)
end Go.Proofs.YthmjdhonafnabaaGreat
