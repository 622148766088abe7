import Derived.Test.YtocplecibgckoaaGreatRunH
import Derived.Test.YtocplecibgckoaaGreatFactsB
namespace Go.Eng
open Go
def auHeld (n m : Int) : Int := max 1 (min n m)
def auL (each : Int) : Nat → Int → Int
  | 0, n => n
  | k + 1, n => if 1152921504606846976 / each < n then 1152921504606846976 else auL each k (n * each)
def auB (d t w : Int) : Int := auL (48 * auHeld t 64) (auHeld d 64).toNat (auHeld w 4096 * 64 * auHeld t 64)
end Go.Eng
namespace Go.Proofs.YtocplecibgckoaaGreat
open Go Go.Eng
set_option maxRecDepth 20000
set_option linter.unusedSimpArgs false
attribute [local irreducible] hvc hops hop hplan hval1 hopD HLoop
theorem held_ (n m : Int) : Pure Tryz.prog 77 [.int .i64 n, .int .i64 m] (.int .i64 (auHeld n m)) := by
  intro PS
  refine enter_77 (by unfold Tryz.f77; exact rfl) ?_
  simp (config := { maxSteps := 200000 }) only [go_sem, Nat.zero_add, Nat.add_zero, Nat.one_mul, Nat.mul_one, Nat.zero_mul, Nat.sub_zero, Nat.le_refl, Int.toNat_natCast, Int.ofNat_lt, Int.ofNat_le, Int.natCast_nonneg, Int.le_refl, Int.cast_ofNat_Int, Int.natCast_one, Int.reduceToNat, Int.reduceLE, Int.reduceLT, Int.reduceAdd, Int.reduceSub, Int.reduceMul, Int.reduceNeg, Int.toNat_zero, Int.reduceEq, Nat.reduceAdd, Nat.reduceSub, Nat.reduceMul, Nat.reduceLeDiff, Nat.reduceLT, Nat.reduceEqDiff, reduceCtorEq, ↓reduceIte, decide_true, decide_false]
  refine congrArg (HV.int .i64) ?_
  unfold auHeld
  omega
theorem auHeld_bd (n m : Int) (h : 1 ≤ m) : 1 ≤ auHeld n m ∧ auHeld n m ≤ m := by unfold auHeld; omega
theorem bound_ (d t w : Int) : Pure Tryz.prog 30 [.int .i64 d, .int .i64 t, .int .i64 w] (.int .i64 (auB d t w)) := by
  intro PS
  have h1 := auHeld_bd d 64 (by omega)
  have h2 := auHeld_bd t 64 (by omega)
  have h3 := auHeld_bd w 4096 (by omega)
  have e0 : auB d t w = auL (48 * auHeld t 64) (auHeld d 64).toNat (auHeld w 4096 * 64 * auHeld t 64) := rfl
  rw [e0]
  refine enter_30 (by unfold Tryz.f30; exact rfl) ?_
  simp (config := { maxSteps := 200000 }) only [go_sem, Nat.zero_add, Nat.add_zero, Nat.one_mul, Nat.mul_one, Nat.zero_mul, Nat.sub_zero, Nat.le_refl, Int.toNat_natCast, Int.ofNat_lt, Int.ofNat_le, Int.natCast_nonneg, Int.le_refl, Int.cast_ofNat_Int, Int.natCast_one, Int.reduceToNat, Int.reduceLE, Int.reduceLT, Int.reduceAdd, Int.reduceSub, Int.reduceMul, Int.reduceNeg, Int.toNat_zero, Int.reduceEq, Nat.reduceAdd, Nat.reduceSub, Nat.reduceMul, Nat.reduceLeDiff, Nat.reduceLT, Nat.reduceEqDiff, reduceCtorEq, ↓reduceIte, decide_true, decide_false]
  refine pend_intro ((held_ _ _).call ?_)
  generalize auHeld t 64 = T at h2 ⊢
  simp (config := { maxSteps := 200000 }) only [go_sem, Nat.zero_add, Nat.add_zero, Nat.one_mul, Nat.mul_one, Nat.zero_mul, Nat.sub_zero, Nat.le_refl, Int.toNat_natCast, Int.ofNat_lt, Int.ofNat_le, Int.natCast_nonneg, Int.le_refl, Int.cast_ofNat_Int, Int.natCast_one, Int.reduceToNat, Int.reduceLE, Int.reduceLT, Int.reduceAdd, Int.reduceSub, Int.reduceMul, Int.reduceNeg, Int.toNat_zero, Int.reduceEq, Nat.reduceAdd, Nat.reduceSub, Nat.reduceMul, Nat.reduceLeDiff, Nat.reduceLT, Nat.reduceEqDiff, reduceCtorEq, ↓reduceIte, decide_true, decide_false]
  refine pend_intro ((held_ _ _).call ?_)
  generalize auHeld w 4096 = W at h3 ⊢
  simp (config := { maxSteps := 200000 }) only [go_sem, Nat.zero_add, Nat.add_zero, Nat.one_mul, Nat.mul_one, Nat.zero_mul, Nat.sub_zero, Nat.le_refl, Int.toNat_natCast, Int.ofNat_lt, Int.ofNat_le, Int.natCast_nonneg, Int.le_refl, Int.cast_ofNat_Int, Int.natCast_one, Int.reduceToNat, Int.reduceLE, Int.reduceLT, Int.reduceAdd, Int.reduceSub, Int.reduceMul, Int.reduceNeg, Int.toNat_zero, Int.reduceEq, Nat.reduceAdd, Nat.reduceSub, Nat.reduceMul, Nat.reduceLeDiff, Nat.reduceLT, Nat.reduceEqDiff, reduceCtorEq, ↓reduceIte, decide_true, decide_false]
  have w1 : 1 ≤ W * 64 * T := Int.mul_pos (by omega) (by omega)
  have w2 : W * 64 * T ≤ 262144 * 64 := Int.mul_le_mul (by omega) h2.2 (by omega) (by omega)
  generalize W * 64 * T = N at w1 w2 ⊢
  refine ⟨by omega, by omega, by omega, pend_intro ((held_ _ _).call ?_)⟩
  generalize auHeld d 64 = D at h1 ⊢
  generalize hE : 48 * T = E
  simp (config := { maxSteps := 200000 }) only [go_sem, Nat.zero_add, Nat.add_zero, Nat.one_mul, Nat.mul_one, Nat.zero_mul, Nat.sub_zero, Nat.le_refl, Int.toNat_natCast, Int.ofNat_lt, Int.ofNat_le, Int.natCast_nonneg, Int.le_refl, Int.cast_ofNat_Int, Int.natCast_one, Int.reduceToNat, Int.reduceLE, Int.reduceLT, Int.reduceAdd, Int.reduceSub, Int.reduceMul, Int.reduceNeg, Int.toNat_zero, Int.reduceEq, Nat.reduceAdd, Nat.reduceSub, Nat.reduceMul, Nat.reduceLeDiff, Nat.reduceLT, Nat.reduceEqDiff, reduceCtorEq, ↓reduceIte, decide_true, decide_false]
  refine pend_intro (loop_rule (α := Nat × Int) [false, false, false, false, false, false, true, false, false, false, false, false, false, false, false, false, false, false, false, false, false, true, true, true, true, true, true, true, true, true] (fun a => [(20, .int .i64 (a.1 : Int)), (7, .int .i64 a.2)]) (fun a => D.toNat - a.1) (fun a PS' => PS' = PS ∧ (a.1 : Int) ≤ D ∧ 1 ≤ a.2 ∧ a.2 ≤ 1152921504606846976 ∧ auL E (D.toNat - a.1) a.2 = auL E D.toNat N) (0, N) ⟨rfl, by simp; omega, w1, by simp; omega, by simp⟩ ?_ ?_)
  · simp (config := { maxSteps := 200000 }) only [go_sem, Nat.zero_add, Nat.add_zero, Nat.one_mul, Nat.mul_one, Nat.zero_mul, Nat.sub_zero, Nat.le_refl, Int.toNat_natCast, Int.ofNat_lt, Int.ofNat_le, Int.natCast_nonneg, Int.le_refl, Int.cast_ofNat_Int, Int.natCast_one, Int.reduceToNat, Int.reduceLE, Int.reduceLT, Int.reduceAdd, Int.reduceSub, Int.reduceMul, Int.reduceNeg, Int.toNat_zero, Int.reduceEq, Nat.reduceAdd, Nat.reduceSub, Nat.reduceMul, Nat.reduceLeDiff, Nat.reduceLT, Nat.reduceEqDiff, reduceCtorEq, ↓reduceIte, decide_true, decide_false, Int.natCast_zero]
  · rintro ⟨k, n⟩ PS' ⟨rfl, hk, hn1, hn2, hq⟩
    simp only at hk hn1 hn2 hq
    by_cases hlt : (k : Int) < D
    · obtain ⟨q, e1⟩ : ∃ q, D.toNat - k = q + 1 := ⟨D.toNat - k - 1, by omega⟩
      have e2 : D.toNat - (k + 1) = q := by omega
      have e3 : Int.tdiv 1152921504606846976 E = 1152921504606846976 / E := Int.tdiv_eq_ediv_of_nonneg (by omega)
      have e4 := Int.ediv_nonneg (a := 1152921504606846976) (b := E) (by omega) (by omega)
      have e5 := Int.ediv_le_self (a := 1152921504606846976) E (by omega)
      rw [e1] at hq
      simp (config := { maxSteps := 200000 }) only [go_sem, Nat.zero_add, Nat.add_zero, Nat.one_mul, Nat.mul_one, Nat.zero_mul, Nat.sub_zero, Nat.le_refl, Int.toNat_natCast, Int.ofNat_lt, Int.ofNat_le, Int.natCast_nonneg, Int.le_refl, Int.cast_ofNat_Int, Int.natCast_one, Int.reduceToNat, Int.reduceLE, Int.reduceLT, Int.reduceAdd, Int.reduceSub, Int.reduceMul, Int.reduceNeg, Int.toNat_zero, Int.reduceEq, Nat.reduceAdd, Nat.reduceSub, Nat.reduceMul, Nat.reduceLeDiff, Nat.reduceLT, Nat.reduceEqDiff, reduceCtorEq, ↓reduceIte, decide_true, decide_false, hlt, e3]
      refine ⟨by omega, by omega, ?_⟩
      by_cases hc : 1152921504606846976 / E < n
      · rw [if_pos hc]
        rw [auL, if_pos hc] at hq
        rw [hq]
      · rw [if_neg hc]
        rw [auL, if_neg hc] at hq
        have e6 : n * E ≤ 1152921504606846976 := (Int.le_ediv_iff_mul_le (by omega)).1 (by omega)
        have e7 : 1 ≤ n * E := Int.mul_pos (by omega) (by omega)
        exact ⟨by omega, by omega, (k + 1, n * E), by simp only; omega, ⟨by simp only; omega, e7, e6, by rw [e2]; exact hq⟩, rfl, congrArg (HV.int .i64) (by omega)⟩
    · simp (config := { maxSteps := 200000 }) only [go_sem, Nat.zero_add, Nat.add_zero, Nat.one_mul, Nat.mul_one, Nat.zero_mul, Nat.sub_zero, Nat.le_refl, Int.toNat_natCast, Int.ofNat_lt, Int.ofNat_le, Int.natCast_nonneg, Int.le_refl, Int.cast_ofNat_Int, Int.natCast_one, Int.reduceToNat, Int.reduceLE, Int.reduceLT, Int.reduceAdd, Int.reduceSub, Int.reduceMul, Int.reduceNeg, Int.toNat_zero, Int.reduceEq, Nat.reduceAdd, Nat.reduceSub, Nat.reduceMul, Nat.reduceLeDiff, Nat.reduceLT, Nat.reduceEqDiff, reduceCtorEq, ↓reduceIte, decide_true, decide_false, hlt]
      have e1 : D.toNat - k = 0 := by omega
      rw [e1] at hq
      exact congrArg (HV.int .i64) hq
end Go.Proofs.YtocplecibgckoaaGreat
