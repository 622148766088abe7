/-
  The law RoomLeaf, run: at a byte by name.
  No conditions.
-/
import Derived.Test.YtmnhpggplblbgaaGreatKcA
namespace Go.Proofs.YtmnhpggplblbgaaGreat
open Go Go.Eng
set_option linter.unusedSectionVars false
variable [Toks]
set_option maxRecDepth 100000
noncomputable def orcT : EC := fun g args m =>
  bif Nat.beq g 204 then oKc args m else orc19 g args m
theorem orcT_ok (hB : ByteToks) : ECOk Tryz.prog orcT := by
  intro g args m L h
  unfold orcT at h
  rcases cond_some h with ⟨hg, h⟩ | h
  · rw [beq_eq'.1 hg]; exact oKc_h hB h
  · exact orc19_ok _ _ _ _ h
theorem trueT (hB : ByteToks) {g : FuncId} {args : List HV} {d fuel : Nat} (h : allTrue (acall Tryz.prog orcT ecov epl fuel d g args ⟨.emp, 0⟩) = true) : HCall Tryz.prog g args [] fun r _ => r = .bool true := by
  cases hc : acall Tryz.prog orcT ecov epl fuel d g args ⟨.emp, 0⟩ with
  | none => rw [hc] at h; cases h
  | some L =>
    rw [hc] at h
    have h : rAll isTrue L = true := h
    rw [rAll_eq] at h
    refine (acall_h mixed' (orcT_ok hB) covers d g args ⟨.emp, 0⟩ L hc).mono ?_
    rintro r PS ⟨x, hx, rfl, rfl⟩
    have := List.all_eq_true.1 h x hx
    obtain ⟨v, m⟩ := x
    unfold isTrue at this
    split at this
    · rename_i b m heq; cases heq; rw [this]
    · cases this
theorem leaf_t (hB : ByteToks) : HCall Tryz.prog 5 [.tok .u8 0, .bool true] [] fun r _ => r = .bool true := trueT hB (fuel := 100000) (d := 60) (by kernel_rfl)
theorem leaf_f (hB : ByteToks) : HCall Tryz.prog 5 [.tok .u8 0, .bool false] [] fun r _ => r = .bool true := trueT hB (fuel := 100000) (d := 60) (by kernel_rfl)
theorem leaf_ (hB : ByteToks) (b : Bool) : HCall Tryz.prog 5 [.tok .u8 0, .bool b] [] fun r _ => r = .bool true := by
  cases b
  · exact leaf_f hB
  · exact leaf_t hB
end Go.Proofs.YtmnhpggplblbgaaGreat
