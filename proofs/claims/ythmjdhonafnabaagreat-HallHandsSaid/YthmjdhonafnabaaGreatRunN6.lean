/-
  The law HallHands, run: at rows of at most six bools.
  No conditions.
-/
import Derived.Test.YthmjdhonafnabaaGreatRunL
namespace Go.Proofs.YthmjdhonafnabaaGreat
open Go Go.Eng
set_option maxRecDepth 100000
theorem hands_ : HCall Tryz.prog 3 [.imm false []] [] fun r _ => r = .bool true := true17 (fuel := 100000) (d := 60) (by kernel_rfl)
theorem hands_fffttf : HCall Tryz.prog 3 [.imm false [[.bool false], [.bool false], [.bool false], [.bool true], [.bool true], [.bool false]]] [] fun r _ => r = .bool true := true17 (fuel := 100000) (d := 60) (by kernel_rfl)
theorem hands_ffttf : HCall Tryz.prog 3 [.imm false [[.bool false], [.bool false], [.bool true], [.bool true], [.bool false]]] [] fun r _ => r = .bool true := true17 (fuel := 100000) (d := 60) (by kernel_rfl)
theorem hands_fftttf : HCall Tryz.prog 3 [.imm false [[.bool false], [.bool false], [.bool true], [.bool true], [.bool true], [.bool false]]] [] fun r _ => r = .bool true := true17 (fuel := 100000) (d := 60) (by kernel_rfl)
theorem hands_ftfttf : HCall Tryz.prog 3 [.imm false [[.bool false], [.bool true], [.bool false], [.bool true], [.bool true], [.bool false]]] [] fun r _ => r = .bool true := true17 (fuel := 100000) (d := 60) (by kernel_rfl)
theorem hands_fttf : HCall Tryz.prog 3 [.imm false [[.bool false], [.bool true], [.bool true], [.bool false]]] [] fun r _ => r = .bool true := true17 (fuel := 100000) (d := 60) (by kernel_rfl)
theorem hands_ftttf : HCall Tryz.prog 3 [.imm false [[.bool false], [.bool true], [.bool true], [.bool true], [.bool false]]] [] fun r _ => r = .bool true := true17 (fuel := 100000) (d := 60) (by kernel_rfl)
theorem hands_fttttf : HCall Tryz.prog 3 [.imm false [[.bool false], [.bool true], [.bool true], [.bool true], [.bool true], [.bool false]]] [] fun r _ => r = .bool true := true17 (fuel := 100000) (d := 60) (by kernel_rfl)
theorem hands_tffttf : HCall Tryz.prog 3 [.imm false [[.bool true], [.bool false], [.bool false], [.bool true], [.bool true], [.bool false]]] [] fun r _ => r = .bool true := true17 (fuel := 100000) (d := 60) (by kernel_rfl)
theorem hands_tfttf : HCall Tryz.prog 3 [.imm false [[.bool true], [.bool false], [.bool true], [.bool true], [.bool false]]] [] fun r _ => r = .bool true := true17 (fuel := 100000) (d := 60) (by kernel_rfl)
theorem hands_tftttf : HCall Tryz.prog 3 [.imm false [[.bool true], [.bool false], [.bool true], [.bool true], [.bool true], [.bool false]]] [] fun r _ => r = .bool true := true17 (fuel := 100000) (d := 60) (by kernel_rfl)
theorem hands_ttf : HCall Tryz.prog 3 [.imm false [[.bool true], [.bool true], [.bool false]]] [] fun r _ => r = .bool true := true17 (fuel := 100000) (d := 60) (by kernel_rfl)
theorem hands_ttfttf : HCall Tryz.prog 3 [.imm false [[.bool true], [.bool true], [.bool false], [.bool true], [.bool true], [.bool false]]] [] fun r _ => r = .bool true := true17 (fuel := 100000) (d := 60) (by kernel_rfl)
theorem hands_tttf : HCall Tryz.prog 3 [.imm false [[.bool true], [.bool true], [.bool true], [.bool false]]] [] fun r _ => r = .bool true := true17 (fuel := 100000) (d := 60) (by kernel_rfl)
theorem hands_ttttf : HCall Tryz.prog 3 [.imm false [[.bool true], [.bool true], [.bool true], [.bool true], [.bool false]]] [] fun r _ => r = .bool true := true17 (fuel := 100000) (d := 60) (by kernel_rfl)
theorem hands_tttttf : HCall Tryz.prog 3 [.imm false [[.bool true], [.bool true], [.bool true], [.bool true], [.bool true], [.bool false]]] [] fun r _ => r = .bool true := true17 (fuel := 100000) (d := 60) (by kernel_rfl)
end Go.Proofs.YthmjdhonafnabaaGreat
