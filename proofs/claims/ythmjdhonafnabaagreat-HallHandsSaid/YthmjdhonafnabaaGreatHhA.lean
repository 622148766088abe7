/-
  The law HallHands at long rows: the hall is there, and the row is too long.
  No conditions.
-/
import Derived.Test.YthmjdhonafnabaaGreatRunL
import Derived.Test.YthmjdhonafnabaaGreatFactsB
namespace Go.Proofs.YthmjdhonafnabaaGreat
open Go Go.Eng
set_option maxRecDepth 100000
noncomputable def allOf (Q : RM → Bool) (l : Option (List RM)) : Bool := Option.rec (motive := fun _ => Bool) false (fun l => rAll Q l) l
theorem run17 {Q : RM → Bool} {g : FuncId} {args : List HV} {d fuel : Nat} (h : allOf Q (acall Tryz.prog orc17 ecov epl fuel d g args ⟨.emp, 0⟩) = true) : HCall Tryz.prog g args [] fun r PS => ∃ m : Mem, Q (r, m) = true ∧ PS = m.pl := by
  cases hc : acall Tryz.prog orc17 ecov epl fuel d g args ⟨.emp, 0⟩ with
  | none => rw [hc] at h; cases h
  | some L =>
    rw [hc] at h
    have h : rAll Q L = true := h
    rw [rAll_eq] at h
    refine (acall_h mixed' orc17_ok covers d g args ⟨.emp, 0⟩ L hc).mono ?_
    rintro r PS ⟨x, hx, rfl, rfl⟩
    exact ⟨x.2, List.all_eq_true.1 h x hx, rfl⟩
noncomputable def isNew (x : RM) : Bool :=
  match x with
  | (.tup [.ptr n 0 0 0, .int .i64 (.ofNat 0)], m) => eLive (m.get n) 0
  | _ => false
theorem new11_run : allOf isNew (acall Tryz.prog orc17 ecov epl 100000 60 8 [.int .i64 1, .int .i64 1] ⟨.emp, 0⟩) = true := by kernel_rfl
theorem new11 : HCall Tryz.prog 8 [.int .i64 1, .int .i64 1] [] fun r PS => ∃ n, r = .tup [.ptr n 0 0 0, .int .i64 0] ∧ hlive (getP PS n) 0 := by
  refine (run17 new11_run).mono ?_
  rintro r PS ⟨m, h, rfl⟩
  unfold isNew at h
  split at h
  · rename_i n m' heq
    cases heq
    exact ⟨n, rfl, by rw [Mem.get_eq]; exact eLive_h h⟩
  · cases h
set_option maxRecDepth 20000
set_option linter.unusedSimpArgs false
attribute [local irreducible] hvc hops hop hplan hval1 hopD HLoop
theorem hands_long (E : List (List HV)) (hE : 6 < E.length) (hm : E.length ≤ 9223372036854775807) : HCall Tryz.prog 3 [.imm false E] [] fun r _ => r = .bool true := by
  refine enter_3 (by unfold Tryz.f3; exact rfl) ?_
  have h6 : (6 : Int) < E.length := by omega
  simp (config := { maxSteps := 200000 }) only [go_sem, Nat.zero_add, Nat.add_zero, Nat.one_mul, Nat.mul_one, Nat.zero_mul, Nat.sub_zero, Nat.le_refl, Int.toNat_natCast, Int.ofNat_lt, Int.ofNat_le, Int.natCast_nonneg, Int.le_refl, Int.cast_ofNat_Int, Int.natCast_one, Int.reduceToNat, Int.reduceLE, Int.reduceLT, Int.reduceAdd, Int.reduceSub, Int.reduceMul, Int.reduceNeg, Int.toNat_zero, Int.reduceEq, Nat.reduceAdd, Nat.reduceSub, Nat.reduceMul, Nat.reduceLeDiff, Nat.reduceLT, Nat.reduceEqDiff, reduceCtorEq, ↓reduceIte, decide_true, decide_false]
  refine pend_intro (new11.mono ?_)
  rintro r PS ⟨n, rfl, hl⟩
  simp (config := { maxSteps := 200000 }) only [go_sem, Nat.zero_add, Nat.add_zero, Nat.one_mul, Nat.mul_one, Nat.zero_mul, Nat.sub_zero, Nat.le_refl, Int.toNat_natCast, Int.ofNat_lt, Int.ofNat_le, Int.natCast_nonneg, Int.le_refl, Int.cast_ofNat_Int, Int.natCast_one, Int.reduceToNat, Int.reduceLE, Int.reduceLT, Int.reduceAdd, Int.reduceSub, Int.reduceMul, Int.reduceNeg, Int.toNat_zero, Int.reduceEq, Nat.reduceAdd, Nat.reduceSub, Nat.reduceMul, Nat.reduceLeDiff, Nat.reduceLT, Nat.reduceEqDiff, reduceCtorEq, ↓reduceIte, decide_true, decide_false, hl, h6]
  intro _
  refine pend_intro (awake17.call ?_)
  simp (config := { maxSteps := 200000 }) only [go_sem, Nat.zero_add, Nat.add_zero, Nat.one_mul, Nat.mul_one, Nat.zero_mul, Nat.sub_zero, Nat.le_refl, Int.toNat_natCast, Int.ofNat_lt, Int.ofNat_le, Int.natCast_nonneg, Int.le_refl, Int.cast_ofNat_Int, Int.natCast_one, Int.reduceToNat, Int.reduceLE, Int.reduceLT, Int.reduceAdd, Int.reduceSub, Int.reduceMul, Int.reduceNeg, Int.toNat_zero, Int.reduceEq, Nat.reduceAdd, Nat.reduceSub, Nat.reduceMul, Nat.reduceLeDiff, Nat.reduceLT, Nat.reduceEqDiff, reduceCtorEq, ↓reduceIte, decide_true, decide_false]
end Go.Proofs.YthmjdhonafnabaaGreat
