/-
  What a law begins with, run: its examples hold.
  No conditions.
-/
import Derived.Test.YtcimbpdkejgnlaaGreatQRunJ
import Derived.Test.YtcimbpdkejgnlaaGreatQRunP
set_option linter.unusedSectionVars false
set_option linter.unusedSimpArgs false
set_option linter.unusedVariables false
namespace Go.Proofs.YtcimbpdkejgnlaaGreat
open Go Go.Eng
variable [Toks]
set_option maxRecDepth 100000
noncomputable def isTrue (r : RM) : Bool :=
  match r with
  | (.bool b, _) => b
  | _ => false
noncomputable def allTrue (l : Option (List RM)) : Bool := Option.rec (motive := fun _ => Bool) false (fun l => rAll isTrue l) l
theorem true_of {g : FuncId} {args : List HV} {d fuel : Nat} (h : allTrue (acall Tryz.prog orc ecov epl fuel d g args ⟨.emp, 0⟩) = true) : HCall Tryz.prog g args [] fun r _ => r = .bool true := by
  cases hc : acall Tryz.prog orc ecov epl fuel d g args ⟨.emp, 0⟩ with
  | none => rw [hc] at h; cases h
  | some L =>
    rw [hc] at h
    have h : rAll isTrue L = true := h
    rw [rAll_eq] at h
    refine (acall_h mixed' orc_ok covers d g args ⟨.emp, 0⟩ L hc).mono ?_
    rintro r PS ⟨x, hx, rfl, rfl⟩
    have := List.all_eq_true.1 h x hx
    obtain ⟨v, m⟩ := x
    unfold isTrue at this
    split at this
    · rename_i b m heq; cases heq; rw [this]
    · cases this
theorem awake27_run : HCall Tryz.prog 72 [] [] fun r _ => r = .bool true := true_of (fuel := 100000) (d := 60) (by kernel_rfl)
theorem awake27 : Pure Tryz.prog 72 [] (.bool true) := Pure.of_nil (by simp) (.bool _) awake27_run
end Go.Proofs.YtcimbpdkejgnlaaGreat
