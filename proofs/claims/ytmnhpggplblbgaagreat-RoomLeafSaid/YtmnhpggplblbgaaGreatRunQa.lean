/-
  The examples of the law of rooms, run: they hold.
  No conditions.
-/
import Derived.Test.YtmnhpggplblbgaaGreatRunQ1
namespace Go.Proofs.YtmnhpggplblbgaaGreat
open Go Go.Eng
set_option linter.unusedSectionVars false
variable [Toks]
set_option maxRecDepth 100000
noncomputable def orcL : EC := fun g args m => bif Nat.beq g 97 then oLeaf9 args m else orcS g args m
theorem orcL_ok : ECOk Tryz.prog orcL := by
  intro g args m L h
  unfold orcL at h
  rcases cond_some h with ⟨hg, h⟩ | h
  · rw [beq_eq'.1 hg]; exact oLeaf9_h h
  · exact orcS_ok _ _ _ _ h
theorem trueL {g : FuncId} {args : List HV} {d fuel : Nat} (h : allTrue (acall Tryz.prog orcL ecov epl fuel d g args ⟨.emp, 0⟩) = true) : HCall Tryz.prog g args [] fun r _ => r = .bool true := by
  cases hc : acall Tryz.prog orcL ecov epl fuel d g args ⟨.emp, 0⟩ with
  | none => rw [hc] at h; cases h
  | some L =>
    rw [hc] at h
    have h : rAll isTrue L = true := h
    rw [rAll_eq] at h
    refine (acall_h mixed' orcL_ok covers d g args ⟨.emp, 0⟩ L hc).mono ?_
    rintro r PS ⟨x, hx, rfl, rfl⟩
    have := List.all_eq_true.1 h x hx
    obtain ⟨v, m⟩ := x
    unfold isTrue at this
    split at this
    · rename_i b m heq; cases heq; rw [this]
    · cases this
theorem awake19_run : HCall Tryz.prog 29 [] [] fun r _ => r = .bool true := trueL (fuel := 100000) (d := 60) (by kernel_rfl)
theorem awake19 : Pure Tryz.prog 29 [] (.bool true) := Pure.of_nil (by simp) (.bool _) awake19_run
end Go.Proofs.YtmnhpggplblbgaaGreat
