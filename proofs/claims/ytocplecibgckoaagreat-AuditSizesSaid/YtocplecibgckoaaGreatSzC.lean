import Derived.Test.YtocplecibgckoaaGreatSzB
namespace Go.Proofs.YtocplecibgckoaaGreat
open Go Go.Eng
set_option maxRecDepth 20000
set_option linter.unusedSimpArgs false
attribute [local irreducible] hvc hops hop hplan hval1 hopD HLoop
theorem enough_ (O : List (List OpH)) (h : fewO O = true) (n : Int) : Pure Tryz.prog 28 [.imm false (opsRows O), .int .i64 n] (.bool (decide ((((oSize O + 7) / 8 : Nat) : Int) ≤ n))) := by
  obtain ⟨hO, hl⟩ := few_len h
  have hs : oSize O ≤ 26 * 40 * O.length := oSize_le O 40 hl
  intro PS
  refine enter_28 (by unfold Tryz.f28; exact rfl) ?_
  by_cases hn : 0 ≤ n
  · simp (config := { maxSteps := 200000 }) only [go_sem, Nat.zero_add, Nat.add_zero, Nat.one_mul, Nat.mul_one, Nat.zero_mul, Nat.sub_zero, Nat.le_refl, Int.toNat_natCast, Int.ofNat_lt, Int.ofNat_le, Int.natCast_nonneg, Int.le_refl, Int.cast_ofNat_Int, Int.natCast_one, Int.reduceToNat, Int.reduceLE, Int.reduceLT, Int.reduceAdd, Int.reduceSub, Int.reduceMul, Int.reduceNeg, Int.toNat_zero, Int.reduceEq, Nat.reduceAdd, Nat.reduceSub, Nat.reduceMul, Nat.reduceLeDiff, Nat.reduceLT, Nat.reduceEqDiff, reduceCtorEq, ↓reduceIte, decide_true, decide_false, hn]
    refine pend_intro ((size_ O h).call ?_)
    simp (config := { maxSteps := 200000 }) only [go_sem, Nat.zero_add, Nat.add_zero, Nat.one_mul, Nat.mul_one, Nat.zero_mul, Nat.sub_zero, Nat.le_refl, Int.toNat_natCast, Int.ofNat_lt, Int.ofNat_le, Int.natCast_nonneg, Int.le_refl, Int.cast_ofNat_Int, Int.natCast_one, Int.reduceToNat, Int.reduceLE, Int.reduceLT, Int.reduceAdd, Int.reduceSub, Int.reduceMul, Int.reduceNeg, Int.toNat_zero, Int.reduceEq, Nat.reduceAdd, Nat.reduceSub, Nat.reduceMul, Nat.reduceLeDiff, Nat.reduceLT, Nat.reduceEqDiff, reduceCtorEq, ↓reduceIte, decide_true, decide_false, hn]
    have e : ((oSize O : Nat) : Int) + 8 - 1 = ((oSize O + 7 : Nat) : Int) := by omega
    have e2 : Int.tdiv ((oSize O + 7 : Nat) : Int) 8 = (((oSize O + 7) / 8 : Nat) : Int) := by rw [Int.tdiv_eq_ediv_of_nonneg (by omega)]; omega
    rw [e, e2]
    exact ⟨by omega, by omega, by omega, rfl⟩
  · simp (config := { maxSteps := 200000 }) only [go_sem, Nat.zero_add, Nat.add_zero, Nat.one_mul, Nat.mul_one, Nat.zero_mul, Nat.sub_zero, Nat.le_refl, Int.toNat_natCast, Int.ofNat_lt, Int.ofNat_le, Int.natCast_nonneg, Int.le_refl, Int.cast_ofNat_Int, Int.natCast_one, Int.reduceToNat, Int.reduceLE, Int.reduceLT, Int.reduceAdd, Int.reduceSub, Int.reduceMul, Int.reduceNeg, Int.toNat_zero, Int.reduceEq, Nat.reduceAdd, Nat.reduceSub, Nat.reduceMul, Nat.reduceLeDiff, Nat.reduceLT, Nat.reduceEqDiff, reduceCtorEq, ↓reduceIte, decide_true, decide_false, hn]
    exact congrArg HV.bool (decide_eq_false (by omega)).symm
theorem enough_r (O : List (List OpH)) (h : fewO O = true) (n : Int) : Pure Tryz.prog 29 [.imm false (opsRows O), .int .i64 n] (.bool (decide ((((oSize O + 7) / 8 : Nat) : Int) ≤ n))) := by
  obtain ⟨hO, hl⟩ := few_len h
  have hs : oSize O ≤ 26 * 40 * O.length := oSize_le O 40 hl
  intro PS
  refine enter_29 (by unfold Tryz.f29; exact rfl) ?_
  simp (config := { maxSteps := 200000 }) only [go_sem, Nat.zero_add, Nat.add_zero, Nat.one_mul, Nat.mul_one, Nat.zero_mul, Nat.sub_zero, Nat.le_refl, Int.toNat_natCast, Int.ofNat_lt, Int.ofNat_le, Int.natCast_nonneg, Int.le_refl, Int.cast_ofNat_Int, Int.natCast_one, Int.reduceToNat, Int.reduceLE, Int.reduceLT, Int.reduceAdd, Int.reduceSub, Int.reduceMul, Int.reduceNeg, Int.toNat_zero, Int.reduceEq, Nat.reduceAdd, Nat.reduceSub, Nat.reduceMul, Nat.reduceLeDiff, Nat.reduceLT, Nat.reduceEqDiff, reduceCtorEq, ↓reduceIte, decide_true, decide_false]
  refine pend_intro ((size_r O h).call ?_)
  simp (config := { maxSteps := 200000 }) only [go_sem, Nat.zero_add, Nat.add_zero, Nat.one_mul, Nat.mul_one, Nat.zero_mul, Nat.sub_zero, Nat.le_refl, Int.toNat_natCast, Int.ofNat_lt, Int.ofNat_le, Int.natCast_nonneg, Int.le_refl, Int.cast_ofNat_Int, Int.natCast_one, Int.reduceToNat, Int.reduceLE, Int.reduceLT, Int.reduceAdd, Int.reduceSub, Int.reduceMul, Int.reduceNeg, Int.toNat_zero, Int.reduceEq, Nat.reduceAdd, Nat.reduceSub, Nat.reduceMul, Nat.reduceLeDiff, Nat.reduceLT, Nat.reduceEqDiff, reduceCtorEq, ↓reduceIte, decide_true, decide_false]
  have e : ((oSize O : Nat) : Int) + 7 = ((oSize O + 7 : Nat) : Int) := by omega
  have e2 : Int.tdiv ((oSize O + 7 : Nat) : Int) 8 = (((oSize O + 7) / 8 : Nat) : Int) := by rw [Int.tdiv_eq_ediv_of_nonneg (by omega)]; omega
  rw [e, e2]
  exact ⟨by omega, by omega, rfl⟩
theorem mn64 (x : Int) : (if 64 < if 1 > x then 1 else x then 64 else if 1 > x then 1 else x) = auHeld x 64 := by unfold auHeld; split <;> split at * <;> omega
theorem mn4096 (x : Int) : (if 4096 < if 1 > x then 1 else x then 4096 else if 1 > x then 1 else x) = auHeld x 4096 := by unfold auHeld; split <;> split at * <;> omega
theorem bound_r (d t w : Int) : Pure Tryz.prog 31 [.int .i64 d, .int .i64 t, .int .i64 w] (.int .i64 (auB d t w)) := by
  intro PS
  have h1 := auHeld_bd d 64 (by omega)
  have h2 := auHeld_bd t 64 (by omega)
  have h3 := auHeld_bd w 4096 (by omega)
  have e0 : auB d t w = auL (48 * auHeld t 64) (auHeld d 64).toNat (auHeld w 4096 * 64 * auHeld t 64) := rfl
  rw [e0]
  have w1 : 1 ≤ auHeld w 4096 * 64 * auHeld t 64 := Int.mul_pos (by omega) (by omega)
  have w2 : auHeld w 4096 * 64 * auHeld t 64 ≤ 262144 * 64 := Int.mul_le_mul (by omega) h2.2 (by omega) (by omega)
  generalize hE : 48 * auHeld t 64 = E
  generalize hN : auHeld w 4096 * 64 * auHeld t 64 = N at w1 w2 ⊢
  refine enter_31 (by unfold Tryz.f31; exact rfl) ?_
  simp (config := { maxSteps := 200000 }) only [go_sem, Nat.zero_add, Nat.add_zero, Nat.one_mul, Nat.mul_one, Nat.zero_mul, Nat.sub_zero, Nat.le_refl, Int.toNat_natCast, Int.ofNat_lt, Int.ofNat_le, Int.natCast_nonneg, Int.le_refl, Int.cast_ofNat_Int, Int.natCast_one, Int.reduceToNat, Int.reduceLE, Int.reduceLT, Int.reduceAdd, Int.reduceSub, Int.reduceMul, Int.reduceNeg, Int.toNat_zero, Int.reduceEq, Nat.reduceAdd, Nat.reduceSub, Nat.reduceMul, Nat.reduceLeDiff, Nat.reduceLT, Nat.reduceEqDiff, reduceCtorEq, ↓reduceIte, decide_true, decide_false, mn64, mn4096, hN]
  refine ⟨by omega, by omega, pend_intro (loop_rule (α := Nat × Int) [false, false, false, false, false, false, true, false, false, false, false, false, false, false, false, false, false, false, false, false, false, false, false, false, false, true, true, true, true, true, true, true, true, true, true, true, true, true, true] (fun a => [(11, .int .i64 (a.1 : Int)), (10, .int .i64 a.2)]) (fun a => (auHeld d 64).toNat - a.1) (fun a PS' => PS' = PS ∧ (a.1 : Int) ≤ auHeld d 64 ∧ 1 ≤ a.2 ∧ a.2 ≤ 1152921504606846976 ∧ auL E ((auHeld d 64).toNat - a.1) a.2 = auL E (auHeld d 64).toNat N) (0, N) ⟨rfl, by simp; omega, w1, by simp; omega, by simp⟩ ?_ ?_)⟩
  · simp (config := { maxSteps := 200000 }) only [go_sem, Nat.zero_add, Nat.add_zero, Nat.one_mul, Nat.mul_one, Nat.zero_mul, Nat.sub_zero, Nat.le_refl, Int.toNat_natCast, Int.ofNat_lt, Int.ofNat_le, Int.natCast_nonneg, Int.le_refl, Int.cast_ofNat_Int, Int.natCast_one, Int.reduceToNat, Int.reduceLE, Int.reduceLT, Int.reduceAdd, Int.reduceSub, Int.reduceMul, Int.reduceNeg, Int.toNat_zero, Int.reduceEq, Nat.reduceAdd, Nat.reduceSub, Nat.reduceMul, Nat.reduceLeDiff, Nat.reduceLT, Nat.reduceEqDiff, reduceCtorEq, ↓reduceIte, decide_true, decide_false, Int.natCast_zero, mn64, mn4096, hN]
  · rintro ⟨k, n⟩ PS' ⟨rfl, hk, hn1, hn2, hq⟩
    simp only at hk hn1 hn2 hq
    by_cases hlt : (k : Int) < auHeld d 64
    · obtain ⟨q, e1⟩ : ∃ q, (auHeld d 64).toNat - k = q + 1 := ⟨(auHeld d 64).toNat - k - 1, by omega⟩
      have e2 : (auHeld d 64).toNat - (k + 1) = q := by omega
      have e3 : Int.tdiv 1152921504606846976 E = 1152921504606846976 / E := Int.tdiv_eq_ediv_of_nonneg (by omega)
      have e4 := Int.ediv_nonneg (a := 1152921504606846976) (b := E) (by omega) (by omega)
      have e5 := Int.ediv_le_self (a := 1152921504606846976) E (by omega)
      rw [e1] at hq
      simp (config := { maxSteps := 200000 }) only [go_sem, Nat.zero_add, Nat.add_zero, Nat.one_mul, Nat.mul_one, Nat.zero_mul, Nat.sub_zero, Nat.le_refl, Int.toNat_natCast, Int.ofNat_lt, Int.ofNat_le, Int.natCast_nonneg, Int.le_refl, Int.cast_ofNat_Int, Int.natCast_one, Int.reduceToNat, Int.reduceLE, Int.reduceLT, Int.reduceAdd, Int.reduceSub, Int.reduceMul, Int.reduceNeg, Int.toNat_zero, Int.reduceEq, Nat.reduceAdd, Nat.reduceSub, Nat.reduceMul, Nat.reduceLeDiff, Nat.reduceLT, Nat.reduceEqDiff, reduceCtorEq, ↓reduceIte, decide_true, decide_false, hlt, mn64, mn4096, hE, e3]
      refine ⟨by omega, by omega, by omega, ?_⟩
      by_cases hc : 1152921504606846976 / E < n
      · rw [if_pos hc]
        rw [auL, if_pos hc] at hq
        rw [hq]
      · rw [if_neg hc]
        rw [auL, if_neg hc] at hq
        have e6 : n * E ≤ 1152921504606846976 := (Int.le_ediv_iff_mul_le (by omega)).1 (by omega)
        have e7 : 1 ≤ n * E := Int.mul_pos (by omega) (by omega)
        have e8 : n * 48 * auHeld t 64 = n * E := by rw [← hE, Int.mul_assoc]
        have e9 : n * 48 ≤ n * E := Int.mul_le_mul_of_nonneg_left (by omega) (by omega)
        rw [e8]
        exact ⟨by omega, by omega, by omega, (k + 1, n * E), by simp only; omega, ⟨by simp only; omega, e7, e6, by rw [e2]; exact hq⟩, rfl, congrArg (HV.int .i64) (by omega)⟩
    · simp (config := { maxSteps := 200000 }) only [go_sem, Nat.zero_add, Nat.add_zero, Nat.one_mul, Nat.mul_one, Nat.zero_mul, Nat.sub_zero, Nat.le_refl, Int.toNat_natCast, Int.ofNat_lt, Int.ofNat_le, Int.natCast_nonneg, Int.le_refl, Int.cast_ofNat_Int, Int.natCast_one, Int.reduceToNat, Int.reduceLE, Int.reduceLT, Int.reduceAdd, Int.reduceSub, Int.reduceMul, Int.reduceNeg, Int.toNat_zero, Int.reduceEq, Nat.reduceAdd, Nat.reduceSub, Nat.reduceMul, Nat.reduceLeDiff, Nat.reduceLT, Nat.reduceEqDiff, reduceCtorEq, ↓reduceIte, decide_true, decide_false, hlt, mn64, mn4096]
      have e1 : (auHeld d 64).toNat - k = 0 := by omega
      rw [e1] at hq
      exact congrArg (HV.int .i64) hq
end Go.Proofs.YtocplecibgckoaaGreat
