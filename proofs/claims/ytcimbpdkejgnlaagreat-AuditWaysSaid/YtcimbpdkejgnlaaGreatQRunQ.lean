/-
  Runs that know the comparing of strings; a law's examples.
  No conditions.
-/
import Derived.Test.YtcimbpdkejgnlaaGreatQRunK
import Derived.Test.YtcimbpdkejgnlaaGreatQStrA
set_option linter.unusedSectionVars false
set_option linter.unusedSimpArgs false
set_option linter.unusedVariables false
namespace Go.Eng
open Go
variable [Toks]
def cmpE : List UInt8 → List UInt8 → Int
  | [], [] => 0
  | [], _ :: _ => -1
  | _ :: _, [] => 1
  | a :: l, b :: r => bif Nat.blt a.toNat b.toNat then -1 else bif Nat.blt b.toNat a.toNat then 1 else cmpE l r
theorem cmpE_eq : ∀ a b : List UInt8, cmpE a b = Lib.compareBytes a b
  | [], [] => rfl
  | [], _ :: _ => rfl
  | _ :: _, [] => rfl
  | a :: l, b :: r => by
    rw [cmpE, Lib.compareBytes, cmpE_eq l r]
    have e1 : Nat.blt a.toNat b.toNat = decide (a < b) := by rw [Bool.eq_iff_iff]; simp [UInt8.lt_iff_toNat_lt]
    have e2 : Nat.blt b.toNat a.toNat = decide (b < a) := by rw [Bool.eq_iff_iff]; simp [UInt8.lt_iff_toNat_lt]
    rw [e1, e2]
    by_cases h1 : a < b
    · simp [h1]
    · by_cases h2 : b < a
      · simp [h1, h2]
      · simp [h1, h2]
noncomputable def oCmp (args : List HV) (m : Mem) : Option (List RM) :=
  match args with
  | [.str a, .str b] => fI (cmpE a b) fun n => some [(.int .i64 n, m)]
  | _ => none
end Go.Eng
namespace Go.Proofs.YtcimbpdkejgnlaaGreat
open Go Go.Eng
variable [Toks]
theorem oCmp_h {args : List HV} {m : Mem} {L : List RM} (h : oCmp args m = some L) : HCall Tryz.prog 356 args m.pl fun v PS => ∃ x ∈ L, v = x.1 ∧ PS = x.2.pl := by
  unfold oCmp at h
  split at h
  · rename_i a b
    rw [fI_eq, cmpE_eq] at h
    cases h
    exact (strings_compare a b).way
  · cases h
noncomputable def orcS : EC := fun g args m =>
  bif Nat.beq g 356 then oCmp args m else orc g args m
theorem orcS_ok : ECOk Tryz.prog orcS := by
  intro g args m L h
  unfold orcS at h
  rcases cond_some h with ⟨hg, h⟩ | h
  · rw [beq_eq'.1 hg]; exact oCmp_h h
  · exact orc_ok _ _ _ _ h
theorem trueS {g : FuncId} {args : List HV} {d fuel : Nat} (h : allTrue (acall Tryz.prog orcS ecov epl fuel d g args ⟨.emp, 0⟩) = true) : HCall Tryz.prog g args [] fun r _ => r = .bool true := by
  cases hc : acall Tryz.prog orcS ecov epl fuel d g args ⟨.emp, 0⟩ with
  | none => rw [hc] at h; cases h
  | some L =>
    rw [hc] at h
    have h : rAll isTrue L = true := h
    rw [rAll_eq] at h
    refine (acall_h mixed' orcS_ok covers d g args ⟨.emp, 0⟩ L hc).mono ?_
    rintro r PS ⟨x, hx, rfl, rfl⟩
    have := List.all_eq_true.1 h x hx
    obtain ⟨v, m⟩ := x
    unfold isTrue at this
    split at this
    · rename_i b m heq; cases heq; rw [this]
    · cases this
end Go.Proofs.YtcimbpdkejgnlaaGreat
