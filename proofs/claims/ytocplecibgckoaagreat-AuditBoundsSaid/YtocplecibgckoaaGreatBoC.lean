import Derived.Test.YtocplecibgckoaaGreatBoB
import Derived.Test.YtocplecibgckoaaGreatRunK
namespace Go.Proofs.YtocplecibgckoaaGreat
open Go Go.Eng
set_option maxRecDepth 20000
set_option linter.unusedSimpArgs false
attribute [local irreducible] hvc hops hop hplan hval1 hopD HLoop
theorem bounds_ (a b c : Int) (PS : PL) : HCall Tryz.prog 6 [.int .i64 a, .int .i64 b, .int .i64 c] PS fun r PS' => r = .bool true := by
  obtain ⟨d, hd0, hd⟩ : ∃ d : Nat, (1 ≤ d ∧ d ≤ 4) ∧ (d : Int) = 1 + a % 4 := ⟨(1 + a % 4).toNat, by omega, by omega⟩
  obtain ⟨t, ht0, ht⟩ : ∃ t : Int, (1 ≤ t ∧ t ≤ 8) ∧ t = 1 + b % 8 := ⟨1 + b % 8, by omega, rfl⟩
  obtain ⟨w, hw0, hw⟩ : ∃ w : Int, (1 ≤ w ∧ w ≤ 100) ∧ w = 1 + c % 100 := ⟨1 + c % 100, by omega, rfl⟩
  obtain ⟨l1, l2, l3, l4, l5, l6, l7⟩ := auB_law d t w hd0 ht0 hw0
  have l8 := auB_le a b c
  have l9 := auB_zero t w
  have hc : ((d + 1 : Nat) : Int) = (d : Int) + 1 := by omega
  rw [hc] at l3
  have m1 : 0 ≤ w * auB d t 1 ∧ w * auB d t 1 ≤ 2251799813685248 := by omega
  have m2 : auB d t w * 48 * t ≤ 108086391056891904 * 8 := Int.mul_le_mul (by omega) ht0.2 (by omega) (by omega)
  have m3 : 0 ≤ auB d t w * 48 * t := Int.mul_nonneg (by omega) (by omega)
  refine enter_6 (by unfold Tryz.f6; exact rfl) ?_
  simp (config := { maxSteps := 200000 }) only [go_sem, Nat.zero_add, Nat.add_zero, Nat.one_mul, Nat.mul_one, Nat.zero_mul, Nat.sub_zero, Nat.le_refl, Int.toNat_natCast, Int.ofNat_lt, Int.ofNat_le, Int.natCast_nonneg, Int.le_refl, Int.cast_ofNat_Int, Int.natCast_one, Int.reduceToNat, Int.reduceLE, Int.reduceLT, Int.reduceAdd, Int.reduceSub, Int.reduceMul, Int.reduceNeg, Int.toNat_zero, Int.reduceEq, Nat.reduceAdd, Nat.reduceSub, Nat.reduceMul, Nat.reduceLeDiff, Nat.reduceLT, Nat.reduceEqDiff, reduceCtorEq, ↓reduceIte, decide_true, decide_false]
  refine pend_intro ((place_ _ _ (by omega) (by omega)).call ?_)
  simp (config := { maxSteps := 200000 }) only [go_sem, Nat.zero_add, Nat.add_zero, Nat.one_mul, Nat.mul_one, Nat.zero_mul, Nat.sub_zero, Nat.le_refl, Int.toNat_natCast, Int.ofNat_lt, Int.ofNat_le, Int.natCast_nonneg, Int.le_refl, Int.cast_ofNat_Int, Int.natCast_one, Int.reduceToNat, Int.reduceLE, Int.reduceLT, Int.reduceAdd, Int.reduceSub, Int.reduceMul, Int.reduceNeg, Int.toNat_zero, Int.reduceEq, Nat.reduceAdd, Nat.reduceSub, Nat.reduceMul, Nat.reduceLeDiff, Nat.reduceLT, Nat.reduceEqDiff, reduceCtorEq, ↓reduceIte, decide_true, decide_false]
  refine ⟨by omega, pend_intro ((place_ _ _ (by omega) (by omega)).call ?_)⟩
  simp (config := { maxSteps := 200000 }) only [go_sem, Nat.zero_add, Nat.add_zero, Nat.one_mul, Nat.mul_one, Nat.zero_mul, Nat.sub_zero, Nat.le_refl, Int.toNat_natCast, Int.ofNat_lt, Int.ofNat_le, Int.natCast_nonneg, Int.le_refl, Int.cast_ofNat_Int, Int.natCast_one, Int.reduceToNat, Int.reduceLE, Int.reduceLT, Int.reduceAdd, Int.reduceSub, Int.reduceMul, Int.reduceNeg, Int.toNat_zero, Int.reduceEq, Nat.reduceAdd, Nat.reduceSub, Nat.reduceMul, Nat.reduceLeDiff, Nat.reduceLT, Nat.reduceEqDiff, reduceCtorEq, ↓reduceIte, decide_true, decide_false]
  refine ⟨by omega, pend_intro ((place_ _ _ (by omega) (by omega)).call ?_)⟩
  simp (config := { maxSteps := 200000 }) only [go_sem, Nat.zero_add, Nat.add_zero, Nat.one_mul, Nat.mul_one, Nat.zero_mul, Nat.sub_zero, Nat.le_refl, Int.toNat_natCast, Int.ofNat_lt, Int.ofNat_le, Int.natCast_nonneg, Int.le_refl, Int.cast_ofNat_Int, Int.natCast_one, Int.reduceToNat, Int.reduceLE, Int.reduceLT, Int.reduceAdd, Int.reduceSub, Int.reduceMul, Int.reduceNeg, Int.toNat_zero, Int.reduceEq, Nat.reduceAdd, Nat.reduceSub, Nat.reduceMul, Nat.reduceLeDiff, Nat.reduceLT, Nat.reduceEqDiff, reduceCtorEq, ↓reduceIte, decide_true, decide_false]
  rw [← ht, ← hw, ← hd]
  refine ⟨by omega, pend_intro ((bound_ _ _ _).call ?_)⟩
  simp (config := { maxSteps := 200000 }) only [go_sem, Nat.zero_add, Nat.add_zero, Nat.one_mul, Nat.mul_one, Nat.zero_mul, Nat.sub_zero, Nat.le_refl, Int.toNat_natCast, Int.ofNat_lt, Int.ofNat_le, Int.natCast_nonneg, Int.le_refl, Int.cast_ofNat_Int, Int.natCast_one, Int.reduceToNat, Int.reduceLE, Int.reduceLT, Int.reduceAdd, Int.reduceSub, Int.reduceMul, Int.reduceNeg, Int.toNat_zero, Int.reduceEq, Nat.reduceAdd, Nat.reduceSub, Nat.reduceMul, Nat.reduceLeDiff, Nat.reduceLT, Nat.reduceEqDiff, reduceCtorEq, ↓reduceIte, decide_true, decide_false, l1]
  refine pend_intro ((bound_ _ _ _).call ?_)
  simp (config := { maxSteps := 200000 }) only [go_sem, Nat.zero_add, Nat.add_zero, Nat.one_mul, Nat.mul_one, Nat.zero_mul, Nat.sub_zero, Nat.le_refl, Int.toNat_natCast, Int.ofNat_lt, Int.ofNat_le, Int.natCast_nonneg, Int.le_refl, Int.cast_ofNat_Int, Int.natCast_one, Int.reduceToNat, Int.reduceLE, Int.reduceLT, Int.reduceAdd, Int.reduceSub, Int.reduceMul, Int.reduceNeg, Int.toNat_zero, Int.reduceEq, Nat.reduceAdd, Nat.reduceSub, Nat.reduceMul, Nat.reduceLeDiff, Nat.reduceLT, Nat.reduceEqDiff, reduceCtorEq, ↓reduceIte, decide_true, decide_false, l2.symm]
  refine ⟨by omega, by omega, pend_intro ((bound_ _ _ _).call ?_)⟩
  simp (config := { maxSteps := 200000 }) only [go_sem, Nat.zero_add, Nat.add_zero, Nat.one_mul, Nat.mul_one, Nat.zero_mul, Nat.sub_zero, Nat.le_refl, Int.toNat_natCast, Int.ofNat_lt, Int.ofNat_le, Int.natCast_nonneg, Int.le_refl, Int.cast_ofNat_Int, Int.natCast_one, Int.reduceToNat, Int.reduceLE, Int.reduceLT, Int.reduceAdd, Int.reduceSub, Int.reduceMul, Int.reduceNeg, Int.toNat_zero, Int.reduceEq, Nat.reduceAdd, Nat.reduceSub, Nat.reduceMul, Nat.reduceLeDiff, Nat.reduceLT, Nat.reduceEqDiff, reduceCtorEq, ↓reduceIte, decide_true, decide_false, l3]
  refine ⟨by omega, by omega, by omega, pend_intro ((bound_ _ _ _).call ?_)⟩
  simp (config := { maxSteps := 200000 }) only [go_sem, Nat.zero_add, Nat.add_zero, Nat.one_mul, Nat.mul_one, Nat.zero_mul, Nat.sub_zero, Nat.le_refl, Int.toNat_natCast, Int.ofNat_lt, Int.ofNat_le, Int.natCast_nonneg, Int.le_refl, Int.cast_ofNat_Int, Int.natCast_one, Int.reduceToNat, Int.reduceLE, Int.reduceLT, Int.reduceAdd, Int.reduceSub, Int.reduceMul, Int.reduceNeg, Int.toNat_zero, Int.reduceEq, Nat.reduceAdd, Nat.reduceSub, Nat.reduceMul, Nat.reduceLeDiff, Nat.reduceLT, Nat.reduceEqDiff, reduceCtorEq, ↓reduceIte, decide_true, decide_false, l4]
  refine pend_intro ((bound_ _ _ _).call ?_)
  simp (config := { maxSteps := 200000 }) only [go_sem, Nat.zero_add, Nat.add_zero, Nat.one_mul, Nat.mul_one, Nat.zero_mul, Nat.sub_zero, Nat.le_refl, Int.toNat_natCast, Int.ofNat_lt, Int.ofNat_le, Int.natCast_nonneg, Int.le_refl, Int.cast_ofNat_Int, Int.natCast_one, Int.reduceToNat, Int.reduceLE, Int.reduceLT, Int.reduceAdd, Int.reduceSub, Int.reduceMul, Int.reduceNeg, Int.toNat_zero, Int.reduceEq, Nat.reduceAdd, Nat.reduceSub, Nat.reduceMul, Nat.reduceLeDiff, Nat.reduceLT, Nat.reduceEqDiff, reduceCtorEq, ↓reduceIte, decide_true, decide_false, l8]
  refine pend_intro ((bound_ _ _ _).call ?_)
  simp (config := { maxSteps := 200000 }) only [go_sem, Nat.zero_add, Nat.add_zero, Nat.one_mul, Nat.mul_one, Nat.zero_mul, Nat.sub_zero, Nat.le_refl, Int.toNat_natCast, Int.ofNat_lt, Int.ofNat_le, Int.natCast_nonneg, Int.le_refl, Int.cast_ofNat_Int, Int.natCast_one, Int.reduceToNat, Int.reduceLE, Int.reduceLT, Int.reduceAdd, Int.reduceSub, Int.reduceMul, Int.reduceNeg, Int.toNat_zero, Int.reduceEq, Nat.reduceAdd, Nat.reduceSub, Nat.reduceMul, Nat.reduceLeDiff, Nat.reduceLT, Nat.reduceEqDiff, reduceCtorEq, ↓reduceIte, decide_true, decide_false]
  refine pend_intro ((bound_ _ _ _).call ?_)
  simp (config := { maxSteps := 200000 }) only [go_sem, Nat.zero_add, Nat.add_zero, Nat.one_mul, Nat.mul_one, Nat.zero_mul, Nat.sub_zero, Nat.le_refl, Int.toNat_natCast, Int.ofNat_lt, Int.ofNat_le, Int.natCast_nonneg, Int.le_refl, Int.cast_ofNat_Int, Int.natCast_one, Int.reduceToNat, Int.reduceLE, Int.reduceLT, Int.reduceAdd, Int.reduceSub, Int.reduceMul, Int.reduceNeg, Int.toNat_zero, Int.reduceEq, Nat.reduceAdd, Nat.reduceSub, Nat.reduceMul, Nat.reduceLeDiff, Nat.reduceLT, Nat.reduceEqDiff, reduceCtorEq, ↓reduceIte, decide_true, decide_false, l9]
  refine pend_intro (awake27.call ?_)
  simp (config := { maxSteps := 200000 }) only [go_sem, Nat.zero_add, Nat.add_zero, Nat.one_mul, Nat.mul_one, Nat.zero_mul, Nat.sub_zero, Nat.le_refl, Int.toNat_natCast, Int.ofNat_lt, Int.ofNat_le, Int.natCast_nonneg, Int.le_refl, Int.cast_ofNat_Int, Int.natCast_one, Int.reduceToNat, Int.reduceLE, Int.reduceLT, Int.reduceAdd, Int.reduceSub, Int.reduceMul, Int.reduceNeg, Int.toNat_zero, Int.reduceEq, Nat.reduceAdd, Nat.reduceSub, Nat.reduceMul, Nat.reduceLeDiff, Nat.reduceLT, Nat.reduceEqDiff, reduceCtorEq, ↓reduceIte, decide_true, decide_false]
end Go.Proofs.YtocplecibgckoaaGreat
