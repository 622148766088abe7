/-
  Writers in their order, run: each row of rests.
  No conditions.
-/
import Derived.Test.YtcimbpdkejgnlaaGreatWoB
namespace Go.Proofs.YtcimbpdkejgnlaaGreat
open Go Go.Eng Go.Mo
set_option linter.unusedSectionVars false
set_option maxRecDepth 100000
theorem wo_100 (key : Bs) (v x y z : Int) (h : WoIn key v x y z 1 0 0) (hp : ∀ T : Toks, @Pure T Tryz.prog 29 [.int .i64 v] (.agg (keyL key))) : @HCall (woT key v x y z 1 0 0 h) Tryz.prog 7 [.tok .i64 3, .agg [.tok .u8 40, .tok .u8 41, .tok .u8 42]] [] fun r _ => r = .bool true := by
  letI : Toks := woT key v x y z 1 0 0 h
  exact trueG (orcW_ok (woOk h) (hp _)) (fuel := 100000) (d := 60) (by kernel_rfl)
theorem wo_101 (key : Bs) (v x y z : Int) (h : WoIn key v x y z 1 0 1) (hp : ∀ T : Toks, @Pure T Tryz.prog 29 [.int .i64 v] (.agg (keyL key))) : @HCall (woT key v x y z 1 0 1 h) Tryz.prog 7 [.tok .i64 3, .agg [.tok .u8 40, .tok .u8 41, .tok .u8 42]] [] fun r _ => r = .bool true := by
  letI : Toks := woT key v x y z 1 0 1 h
  exact trueG (orcW_ok (woOk h) (hp _)) (fuel := 100000) (d := 60) (by kernel_rfl)
theorem wo_102 (key : Bs) (v x y z : Int) (h : WoIn key v x y z 1 0 2) (hp : ∀ T : Toks, @Pure T Tryz.prog 29 [.int .i64 v] (.agg (keyL key))) : @HCall (woT key v x y z 1 0 2 h) Tryz.prog 7 [.tok .i64 3, .agg [.tok .u8 40, .tok .u8 41, .tok .u8 42]] [] fun r _ => r = .bool true := by
  letI : Toks := woT key v x y z 1 0 2 h
  exact trueG (orcW_ok (woOk h) (hp _)) (fuel := 100000) (d := 60) (by kernel_rfl)
theorem wo_110 (key : Bs) (v x y z : Int) (h : WoIn key v x y z 1 1 0) (hp : ∀ T : Toks, @Pure T Tryz.prog 29 [.int .i64 v] (.agg (keyL key))) : @HCall (woT key v x y z 1 1 0 h) Tryz.prog 7 [.tok .i64 3, .agg [.tok .u8 40, .tok .u8 41, .tok .u8 42]] [] fun r _ => r = .bool true := by
  letI : Toks := woT key v x y z 1 1 0 h
  exact trueG (orcW_ok (woOk h) (hp _)) (fuel := 100000) (d := 60) (by kernel_rfl)
theorem wo_111 (key : Bs) (v x y z : Int) (h : WoIn key v x y z 1 1 1) (hp : ∀ T : Toks, @Pure T Tryz.prog 29 [.int .i64 v] (.agg (keyL key))) : @HCall (woT key v x y z 1 1 1 h) Tryz.prog 7 [.tok .i64 3, .agg [.tok .u8 40, .tok .u8 41, .tok .u8 42]] [] fun r _ => r = .bool true := by
  letI : Toks := woT key v x y z 1 1 1 h
  exact trueG (orcW_ok (woOk h) (hp _)) (fuel := 100000) (d := 60) (by kernel_rfl)
theorem wo_112 (key : Bs) (v x y z : Int) (h : WoIn key v x y z 1 1 2) (hp : ∀ T : Toks, @Pure T Tryz.prog 29 [.int .i64 v] (.agg (keyL key))) : @HCall (woT key v x y z 1 1 2 h) Tryz.prog 7 [.tok .i64 3, .agg [.tok .u8 40, .tok .u8 41, .tok .u8 42]] [] fun r _ => r = .bool true := by
  letI : Toks := woT key v x y z 1 1 2 h
  exact trueG (orcW_ok (woOk h) (hp _)) (fuel := 100000) (d := 60) (by kernel_rfl)
theorem wo_120 (key : Bs) (v x y z : Int) (h : WoIn key v x y z 1 2 0) (hp : ∀ T : Toks, @Pure T Tryz.prog 29 [.int .i64 v] (.agg (keyL key))) : @HCall (woT key v x y z 1 2 0 h) Tryz.prog 7 [.tok .i64 3, .agg [.tok .u8 40, .tok .u8 41, .tok .u8 42]] [] fun r _ => r = .bool true := by
  letI : Toks := woT key v x y z 1 2 0 h
  exact trueG (orcW_ok (woOk h) (hp _)) (fuel := 100000) (d := 60) (by kernel_rfl)
theorem wo_121 (key : Bs) (v x y z : Int) (h : WoIn key v x y z 1 2 1) (hp : ∀ T : Toks, @Pure T Tryz.prog 29 [.int .i64 v] (.agg (keyL key))) : @HCall (woT key v x y z 1 2 1 h) Tryz.prog 7 [.tok .i64 3, .agg [.tok .u8 40, .tok .u8 41, .tok .u8 42]] [] fun r _ => r = .bool true := by
  letI : Toks := woT key v x y z 1 2 1 h
  exact trueG (orcW_ok (woOk h) (hp _)) (fuel := 100000) (d := 60) (by kernel_rfl)
theorem wo_122 (key : Bs) (v x y z : Int) (h : WoIn key v x y z 1 2 2) (hp : ∀ T : Toks, @Pure T Tryz.prog 29 [.int .i64 v] (.agg (keyL key))) : @HCall (woT key v x y z 1 2 2 h) Tryz.prog 7 [.tok .i64 3, .agg [.tok .u8 40, .tok .u8 41, .tok .u8 42]] [] fun r _ => r = .bool true := by
  letI : Toks := woT key v x y z 1 2 2 h
  exact trueG (orcW_ok (woOk h) (hp _)) (fuel := 100000) (d := 60) (by kernel_rfl)
end Go.Proofs.YtcimbpdkejgnlaaGreat
