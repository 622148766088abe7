/-
  The law RoomStill, run: at both bools.
  No conditions.
-/
import Derived.Test.YtmnhpggplblbgaaGreatRunQa
namespace Go.Proofs.YtmnhpggplblbgaaGreat
open Go Go.Eng
set_option linter.unusedSectionVars false
variable [Toks]
set_option maxRecDepth 100000
noncomputable def orc19 : EC := fun g args m =>
  bif Nat.beq g 29 then (match args with | [] => some [(.bool true, m)] | _ => none) else orcS g args m
theorem orc19_ok : ECOk Tryz.prog orc19 := by
  intro g args m L h
  unfold orc19 at h
  rcases cond_some h with ⟨hg, h⟩ | h
  · rw [beq_eq'.1 hg]
    split at h
    · cases h; exact awake19.way
    · cases h
  · exact orcS_ok _ _ _ _ h
theorem true19 {g : FuncId} {args : List HV} {d fuel : Nat} (h : allTrue (acall Tryz.prog orc19 ecov epl fuel d g args ⟨.emp, 0⟩) = true) : HCall Tryz.prog g args [] fun r _ => r = .bool true := by
  cases hc : acall Tryz.prog orc19 ecov epl fuel d g args ⟨.emp, 0⟩ with
  | none => rw [hc] at h; cases h
  | some L =>
    rw [hc] at h
    have h : rAll isTrue L = true := h
    rw [rAll_eq] at h
    refine (acall_h mixed' orc19_ok covers d g args ⟨.emp, 0⟩ L hc).mono ?_
    rintro r PS ⟨x, hx, rfl, rfl⟩
    have := List.all_eq_true.1 h x hx
    obtain ⟨v, m⟩ := x
    unfold isTrue at this
    split at this
    · rename_i b m heq; cases heq; rw [this]
    · cases this
theorem still_t : HCall Tryz.prog 4 [.bool true] [] fun r _ => r = .bool true := true19 (fuel := 100000) (d := 60) (by kernel_rfl)
theorem still_f : HCall Tryz.prog 4 [.bool false] [] fun r _ => r = .bool true := true19 (fuel := 100000) (d := 60) (by kernel_rfl)
theorem still_ (b : Bool) : HCall Tryz.prog 4 [.bool b] [] fun r _ => r = .bool true := by
  cases b
  · exact still_f
  · exact still_t
end Go.Proofs.YtmnhpggplblbgaaGreat
