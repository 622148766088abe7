/-
  The law HouseLarge, run: texts by name, their lengths between two numbers each.
  No conditions.
-/
import Derived.Test.YtmnhpggplblbgaaGreatHlD
namespace Go.Proofs.YtmnhpggplblbgaaGreat
open Go Go.Eng Go.Mo
set_option linter.unusedSectionVars false
set_option maxRecDepth 100000
theorem hl_sm0 (key val : Bs) (v kd : Int) (h : HlIn key val v kd 0 8 0 16) (hk : kd % 4 = 0) : @HCall (hlT key val v kd 0 8 0 16 h) Tryz.prog 9 [.stok 0, .stok 1, .tok .i64 5, .tok .i64 3] [] fun r _ => r = .bool true := by
  letI : Toks := hlT key val v kd 0 8 0 16 h
  exact trueG (orcH_ok (hlOk h hk (sk := true) (sv := true) (fun e => by first | (cases e; done) | (have := h.k; omega)) (fun e => by first | (cases e; done) | (have := h.w; omega)))) (fuel := 100000) (d := 60) (by kernel_rfl)
theorem hl_sm1 (key val : Bs) (v kd : Int) (h : HlIn key val v kd 0 8 0 100) (hk : kd % 4 = 1) : @HCall (hlT key val v kd 0 8 0 100 h) Tryz.prog 9 [.stok 0, .stok 1, .tok .i64 5, .tok .i64 3] [] fun r _ => r = .bool true := by
  letI : Toks := hlT key val v kd 0 8 0 100 h
  exact trueG (orcH_ok (hlOk h hk (sk := true) (sv := false) (fun e => by first | (cases e; done) | (have := h.k; omega)) (fun e => by first | (cases e; done) | (have := h.w; omega)))) (fuel := 100000) (d := 60) (by kernel_rfl)
theorem hl_sm2 (key val : Bs) (v kd : Int) (h : HlIn key val v kd 0 8 0 100) (hk : kd % 4 = 2) : @HCall (hlT key val v kd 0 8 0 100 h) Tryz.prog 9 [.stok 0, .stok 1, .tok .i64 5, .tok .i64 3] [] fun r _ => r = .bool true := by
  letI : Toks := hlT key val v kd 0 8 0 100 h
  exact trueG (orcH_ok (hlOk h hk (sk := true) (sv := false) (fun e => by first | (cases e; done) | (have := h.k; omega)) (fun e => by first | (cases e; done) | (have := h.w; omega)))) (fuel := 100000) (d := 60) (by kernel_rfl)
theorem hl_sm3 (key val : Bs) (v kd : Int) (h : HlIn key val v kd 0 8 0 100) (hk : kd % 4 = 3) : @HCall (hlT key val v kd 0 8 0 100 h) Tryz.prog 9 [.stok 0, .stok 1, .tok .i64 5, .tok .i64 3] [] fun r _ => r = .bool true := by
  letI : Toks := hlT key val v kd 0 8 0 100 h
  exact trueG (orcH_ok (hlOk h hk (sk := true) (sv := false) (fun e => by first | (cases e; done) | (have := h.k; omega)) (fun e => by first | (cases e; done) | (have := h.w; omega)))) (fuel := 100000) (d := 60) (by kernel_rfl)
end Go.Proofs.YtmnhpggplblbgaaGreat
