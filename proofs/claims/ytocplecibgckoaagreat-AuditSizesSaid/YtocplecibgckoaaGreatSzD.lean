import Derived.Test.YtocplecibgckoaaGreatSzC
import Derived.Test.YtocplecibgckoaaGreatRunK
namespace Go.Proofs.YtocplecibgckoaaGreat
open Go Go.Eng
set_option maxRecDepth 20000
set_option linter.unusedSimpArgs false
attribute [local irreducible] hvc hops hop hplan hval1 hopD HLoop
theorem same_ (O : List (List OpH)) (hf : fewO O = true) (n : Int) : ∃ q : Bool, Pure Tryz.prog 28 [.imm false (opsRows O), .int .i64 n] (.bool q) ∧ Pure Tryz.prog 29 [.imm false (opsRows O), .int .i64 n] (.bool q) :=
  ⟨_, enough_ O hf n, enough_r O hf n⟩
theorem same_s (O : List (List OpH)) (hf : fewO O = true) : ∃ q : Int, Pure Tryz.prog 26 [.imm false (opsRows O)] (.int .i64 q) ∧ Pure Tryz.prog 27 [.imm false (opsRows O)] (.int .i64 q) :=
  ⟨_, size_ O hf, size_r O hf⟩
theorem same_b (d t w : Int) : ∃ q : Int, Pure Tryz.prog 30 [.int .i64 d, .int .i64 t, .int .i64 w] (.int .i64 q) ∧ Pure Tryz.prog 31 [.int .i64 d, .int .i64 t, .int .i64 w] (.int .i64 q) :=
  ⟨_, bound_ d t w, bound_r d t w⟩
theorem sizes_ (O : List (List OpH)) (n d t w : Int) : HCall Tryz.prog 5 [.imm false (opsRows O), .int .i64 n, .int .i64 d, .int .i64 t, .int .i64 w] [] fun r _ => r = .bool true := by
  have hF := few_ O
  have hS := same_s O
  have hN := same_ O
  generalize fewO O = fO at hF hS hN
  generalize opsRows O = R at hF hS hN ⊢
  refine enter_5 (by unfold Tryz.f5; exact rfl) ?_
  simp (config := { maxSteps := 200000 }) only [go_sem, Nat.zero_add, Nat.add_zero, Nat.one_mul, Nat.mul_one, Nat.zero_mul, Nat.sub_zero, Nat.le_refl, Int.toNat_natCast, Int.ofNat_lt, Int.ofNat_le, Int.natCast_nonneg, Int.le_refl, Int.cast_ofNat_Int, Int.natCast_one, Int.reduceToNat, Int.reduceLE, Int.reduceLT, Int.reduceAdd, Int.reduceSub, Int.reduceMul, Int.reduceNeg, Int.toNat_zero, Int.reduceEq, Nat.reduceAdd, Nat.reduceSub, Nat.reduceMul, Nat.reduceLeDiff, Nat.reduceLT, Nat.reduceEqDiff, reduceCtorEq, ↓reduceIte, decide_true, decide_false]
  refine pend_intro (hF.call ?_)
  cases fO with
  | false =>
    simp (config := { maxSteps := 200000 }) only [go_sem, Nat.zero_add, Nat.add_zero, Nat.one_mul, Nat.mul_one, Nat.zero_mul, Nat.sub_zero, Nat.le_refl, Int.toNat_natCast, Int.ofNat_lt, Int.ofNat_le, Int.natCast_nonneg, Int.le_refl, Int.cast_ofNat_Int, Int.natCast_one, Int.reduceToNat, Int.reduceLE, Int.reduceLT, Int.reduceAdd, Int.reduceSub, Int.reduceMul, Int.reduceNeg, Int.toNat_zero, Int.reduceEq, Nat.reduceAdd, Nat.reduceSub, Nat.reduceMul, Nat.reduceLeDiff, Nat.reduceLT, Nat.reduceEqDiff, reduceCtorEq, ↓reduceIte, decide_true, decide_false]
    refine pend_intro (awake27.call ?_)
    simp (config := { maxSteps := 200000 }) only [go_sem, Nat.zero_add, Nat.add_zero, Nat.one_mul, Nat.mul_one, Nat.zero_mul, Nat.sub_zero, Nat.le_refl, Int.toNat_natCast, Int.ofNat_lt, Int.ofNat_le, Int.natCast_nonneg, Int.le_refl, Int.cast_ofNat_Int, Int.natCast_one, Int.reduceToNat, Int.reduceLE, Int.reduceLT, Int.reduceAdd, Int.reduceSub, Int.reduceMul, Int.reduceNeg, Int.toNat_zero, Int.reduceEq, Nat.reduceAdd, Nat.reduceSub, Nat.reduceMul, Nat.reduceLeDiff, Nat.reduceLT, Nat.reduceEqDiff, reduceCtorEq, ↓reduceIte, decide_true, decide_false]
  | true =>
    obtain ⟨s, s1, s2⟩ := hS rfl
    simp (config := { maxSteps := 200000 }) only [go_sem, Nat.zero_add, Nat.add_zero, Nat.one_mul, Nat.mul_one, Nat.zero_mul, Nat.sub_zero, Nat.le_refl, Int.toNat_natCast, Int.ofNat_lt, Int.ofNat_le, Int.natCast_nonneg, Int.le_refl, Int.cast_ofNat_Int, Int.natCast_one, Int.reduceToNat, Int.reduceLE, Int.reduceLT, Int.reduceAdd, Int.reduceSub, Int.reduceMul, Int.reduceNeg, Int.toNat_zero, Int.reduceEq, Nat.reduceAdd, Nat.reduceSub, Nat.reduceMul, Nat.reduceLeDiff, Nat.reduceLT, Nat.reduceEqDiff, reduceCtorEq, ↓reduceIte, decide_true, decide_false]
    refine pend_intro (s1.call ?_)
    simp (config := { maxSteps := 200000 }) only [go_sem, Nat.zero_add, Nat.add_zero, Nat.one_mul, Nat.mul_one, Nat.zero_mul, Nat.sub_zero, Nat.le_refl, Int.toNat_natCast, Int.ofNat_lt, Int.ofNat_le, Int.natCast_nonneg, Int.le_refl, Int.cast_ofNat_Int, Int.natCast_one, Int.reduceToNat, Int.reduceLE, Int.reduceLT, Int.reduceAdd, Int.reduceSub, Int.reduceMul, Int.reduceNeg, Int.toNat_zero, Int.reduceEq, Nat.reduceAdd, Nat.reduceSub, Nat.reduceMul, Nat.reduceLeDiff, Nat.reduceLT, Nat.reduceEqDiff, reduceCtorEq, ↓reduceIte, decide_true, decide_false]
    refine pend_intro (s2.call ?_)
    obtain ⟨q, q1, q2⟩ := hN rfl n
    simp (config := { maxSteps := 200000 }) only [go_sem, Nat.zero_add, Nat.add_zero, Nat.one_mul, Nat.mul_one, Nat.zero_mul, Nat.sub_zero, Nat.le_refl, Int.toNat_natCast, Int.ofNat_lt, Int.ofNat_le, Int.natCast_nonneg, Int.le_refl, Int.cast_ofNat_Int, Int.natCast_one, Int.reduceToNat, Int.reduceLE, Int.reduceLT, Int.reduceAdd, Int.reduceSub, Int.reduceMul, Int.reduceNeg, Int.toNat_zero, Int.reduceEq, Nat.reduceAdd, Nat.reduceSub, Nat.reduceMul, Nat.reduceLeDiff, Nat.reduceLT, Nat.reduceEqDiff, reduceCtorEq, ↓reduceIte, decide_true, decide_false]
    refine pend_intro (q1.call ?_)
    obtain ⟨p, p1, p2⟩ := hN rfl (Int.tmod n 64)
    obtain ⟨u, u1, u2⟩ := same_b d t w
    obtain ⟨v, v1, v2⟩ := same_b (Int.tmod d 9) (Int.tmod t 9) (Int.tmod w 99)
    cases q
    all_goals
      simp (config := { maxSteps := 200000 }) only [go_sem, Nat.zero_add, Nat.add_zero, Nat.one_mul, Nat.mul_one, Nat.zero_mul, Nat.sub_zero, Nat.le_refl, Int.toNat_natCast, Int.ofNat_lt, Int.ofNat_le, Int.natCast_nonneg, Int.le_refl, Int.cast_ofNat_Int, Int.natCast_one, Int.reduceToNat, Int.reduceLE, Int.reduceLT, Int.reduceAdd, Int.reduceSub, Int.reduceMul, Int.reduceNeg, Int.toNat_zero, Int.reduceEq, Nat.reduceAdd, Nat.reduceSub, Nat.reduceMul, Nat.reduceLeDiff, Nat.reduceLT, Nat.reduceEqDiff, reduceCtorEq, ↓reduceIte, decide_true, decide_false]
      refine pend_intro (q2.call ?_)
      simp (config := { maxSteps := 200000 }) only [go_sem, Nat.zero_add, Nat.add_zero, Nat.one_mul, Nat.mul_one, Nat.zero_mul, Nat.sub_zero, Nat.le_refl, Int.toNat_natCast, Int.ofNat_lt, Int.ofNat_le, Int.natCast_nonneg, Int.le_refl, Int.cast_ofNat_Int, Int.natCast_one, Int.reduceToNat, Int.reduceLE, Int.reduceLT, Int.reduceAdd, Int.reduceSub, Int.reduceMul, Int.reduceNeg, Int.toNat_zero, Int.reduceEq, Nat.reduceAdd, Nat.reduceSub, Nat.reduceMul, Nat.reduceLeDiff, Nat.reduceLT, Nat.reduceEqDiff, reduceCtorEq, ↓reduceIte, decide_true, decide_false]
      refine pend_intro (p1.call ?_)
      cases p
    all_goals
      simp (config := { maxSteps := 200000 }) only [go_sem, Nat.zero_add, Nat.add_zero, Nat.one_mul, Nat.mul_one, Nat.zero_mul, Nat.sub_zero, Nat.le_refl, Int.toNat_natCast, Int.ofNat_lt, Int.ofNat_le, Int.natCast_nonneg, Int.le_refl, Int.cast_ofNat_Int, Int.natCast_one, Int.reduceToNat, Int.reduceLE, Int.reduceLT, Int.reduceAdd, Int.reduceSub, Int.reduceMul, Int.reduceNeg, Int.toNat_zero, Int.reduceEq, Nat.reduceAdd, Nat.reduceSub, Nat.reduceMul, Nat.reduceLeDiff, Nat.reduceLT, Nat.reduceEqDiff, reduceCtorEq, ↓reduceIte, decide_true, decide_false]
      refine pend_intro (p2.call ?_)
      simp (config := { maxSteps := 200000 }) only [go_sem, Nat.zero_add, Nat.add_zero, Nat.one_mul, Nat.mul_one, Nat.zero_mul, Nat.sub_zero, Nat.le_refl, Int.toNat_natCast, Int.ofNat_lt, Int.ofNat_le, Int.natCast_nonneg, Int.le_refl, Int.cast_ofNat_Int, Int.natCast_one, Int.reduceToNat, Int.reduceLE, Int.reduceLT, Int.reduceAdd, Int.reduceSub, Int.reduceMul, Int.reduceNeg, Int.toNat_zero, Int.reduceEq, Nat.reduceAdd, Nat.reduceSub, Nat.reduceMul, Nat.reduceLeDiff, Nat.reduceLT, Nat.reduceEqDiff, reduceCtorEq, ↓reduceIte, decide_true, decide_false]
      refine pend_intro (u1.call ?_)
      simp (config := { maxSteps := 200000 }) only [go_sem, Nat.zero_add, Nat.add_zero, Nat.one_mul, Nat.mul_one, Nat.zero_mul, Nat.sub_zero, Nat.le_refl, Int.toNat_natCast, Int.ofNat_lt, Int.ofNat_le, Int.natCast_nonneg, Int.le_refl, Int.cast_ofNat_Int, Int.natCast_one, Int.reduceToNat, Int.reduceLE, Int.reduceLT, Int.reduceAdd, Int.reduceSub, Int.reduceMul, Int.reduceNeg, Int.toNat_zero, Int.reduceEq, Nat.reduceAdd, Nat.reduceSub, Nat.reduceMul, Nat.reduceLeDiff, Nat.reduceLT, Nat.reduceEqDiff, reduceCtorEq, ↓reduceIte, decide_true, decide_false]
      refine pend_intro (u2.call ?_)
      simp (config := { maxSteps := 200000 }) only [go_sem, Nat.zero_add, Nat.add_zero, Nat.one_mul, Nat.mul_one, Nat.zero_mul, Nat.sub_zero, Nat.le_refl, Int.toNat_natCast, Int.ofNat_lt, Int.ofNat_le, Int.natCast_nonneg, Int.le_refl, Int.cast_ofNat_Int, Int.natCast_one, Int.reduceToNat, Int.reduceLE, Int.reduceLT, Int.reduceAdd, Int.reduceSub, Int.reduceMul, Int.reduceNeg, Int.toNat_zero, Int.reduceEq, Nat.reduceAdd, Nat.reduceSub, Nat.reduceMul, Nat.reduceLeDiff, Nat.reduceLT, Nat.reduceEqDiff, reduceCtorEq, ↓reduceIte, decide_true, decide_false]
      refine pend_intro (v1.call ?_)
      simp (config := { maxSteps := 200000 }) only [go_sem, Nat.zero_add, Nat.add_zero, Nat.one_mul, Nat.mul_one, Nat.zero_mul, Nat.sub_zero, Nat.le_refl, Int.toNat_natCast, Int.ofNat_lt, Int.ofNat_le, Int.natCast_nonneg, Int.le_refl, Int.cast_ofNat_Int, Int.natCast_one, Int.reduceToNat, Int.reduceLE, Int.reduceLT, Int.reduceAdd, Int.reduceSub, Int.reduceMul, Int.reduceNeg, Int.toNat_zero, Int.reduceEq, Nat.reduceAdd, Nat.reduceSub, Nat.reduceMul, Nat.reduceLeDiff, Nat.reduceLT, Nat.reduceEqDiff, reduceCtorEq, ↓reduceIte, decide_true, decide_false]
      refine pend_intro (v2.call ?_)
      simp (config := { maxSteps := 200000 }) only [go_sem, Nat.zero_add, Nat.add_zero, Nat.one_mul, Nat.mul_one, Nat.zero_mul, Nat.sub_zero, Nat.le_refl, Int.toNat_natCast, Int.ofNat_lt, Int.ofNat_le, Int.natCast_nonneg, Int.le_refl, Int.cast_ofNat_Int, Int.natCast_one, Int.reduceToNat, Int.reduceLE, Int.reduceLT, Int.reduceAdd, Int.reduceSub, Int.reduceMul, Int.reduceNeg, Int.toNat_zero, Int.reduceEq, Nat.reduceAdd, Nat.reduceSub, Nat.reduceMul, Nat.reduceLeDiff, Nat.reduceLT, Nat.reduceEqDiff, reduceCtorEq, ↓reduceIte, decide_true, decide_false]
      refine pend_intro (awake27.call ?_)
      simp (config := { maxSteps := 200000 }) only [go_sem, Nat.zero_add, Nat.add_zero, Nat.one_mul, Nat.mul_one, Nat.zero_mul, Nat.sub_zero, Nat.le_refl, Int.toNat_natCast, Int.ofNat_lt, Int.ofNat_le, Int.natCast_nonneg, Int.le_refl, Int.cast_ofNat_Int, Int.natCast_one, Int.reduceToNat, Int.reduceLE, Int.reduceLT, Int.reduceAdd, Int.reduceSub, Int.reduceMul, Int.reduceNeg, Int.toNat_zero, Int.reduceEq, Nat.reduceAdd, Nat.reduceSub, Nat.reduceMul, Nat.reduceLeDiff, Nat.reduceLT, Nat.reduceEqDiff, reduceCtorEq, ↓reduceIte, decide_true, decide_false]
end Go.Proofs.YtocplecibgckoaaGreat
