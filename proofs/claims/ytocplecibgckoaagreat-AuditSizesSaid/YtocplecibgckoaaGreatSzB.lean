import Derived.Test.YtocplecibgckoaaGreatSzA
import Derived.Test.YtocplecibgckoaaGreatBoB
namespace Go.Proofs.YtocplecibgckoaaGreat
open Go Go.Eng
set_option maxRecDepth 20000
set_option linter.unusedSimpArgs false
attribute [local irreducible] hvc hops hop hplan hval1 hopD HLoop
theorem opRow_get {O : List (List OpH)} {i : Nat} (h : i < O.length) : (opsRows O)[i]? = some [.imm false (opRows O[i])] := by simp [opsRows, h]
theorem opsRows_len (O : List (List OpH)) : (opsRows O).length = O.length := by simp [opsRows]
theorem opRows_len (l : List OpH) : (opRows l).length = l.length := by simp [opRows]
theorem opRows_get {l : List OpH} {i : Nat} (h : i < l.length) : (opRows l)[i]? = some [.int .i64 l[i].kind, .str l[i].key, .str l[i].val, .int .u64 l[i].by'] := by simp [opRows, opRow, h]
theorem large_ (k : Int) (a b : List UInt8) (y : Int) : Pure Tryz.prog 75 [.agg [.int .i64 k, .str a, .str b, .int .u64 y]] (.bool (opLarge ⟨k, a, b, y⟩)) := by
  refine Pure.of_ext (.bool _) fun PS => ?_
  refine enter_75 (by unfold Tryz.f75; exact rfl) ?_
  by_cases h1 : 8 < (a.length : Int)
  · have h1' : 8 < a.length := by omega
    simp (config := { maxSteps := 200000 }) only [go_sem, Nat.zero_add, Nat.add_zero, Nat.one_mul, Nat.mul_one, Nat.zero_mul, Nat.sub_zero, Nat.le_refl, Int.toNat_natCast, Int.ofNat_lt, Int.ofNat_le, Int.natCast_nonneg, Int.le_refl, Int.cast_ofNat_Int, Int.natCast_one, Int.reduceToNat, Int.reduceLE, Int.reduceLT, Int.reduceAdd, Int.reduceSub, Int.reduceMul, Int.reduceNeg, Int.toNat_zero, Int.reduceEq, Nat.reduceAdd, Nat.reduceSub, Nat.reduceMul, Nat.reduceLeDiff, Nat.reduceLT, Nat.reduceEqDiff, reduceCtorEq, ↓reduceIte, decide_true, decide_false, opLarge, h1, h1', decide_true, Bool.true_or]
    exact Ext.app _ _
  · have h1' : ¬ 8 < a.length := by omega
    by_cases h2 : k = 1
    · subst h2
      have e : decide (16 < (b.length : Int)) = decide (16 < b.length) := by
        by_cases h3 : 16 < b.length
        · rw [decide_eq_true h3, decide_eq_true (by omega)]
        · rw [decide_eq_false h3, decide_eq_false (by omega)]
      simp (config := { maxSteps := 200000 }) only [go_sem, Nat.zero_add, Nat.add_zero, Nat.one_mul, Nat.mul_one, Nat.zero_mul, Nat.sub_zero, Nat.le_refl, Int.toNat_natCast, Int.ofNat_lt, Int.ofNat_le, Int.natCast_nonneg, Int.le_refl, Int.cast_ofNat_Int, Int.natCast_one, Int.reduceToNat, Int.reduceLE, Int.reduceLT, Int.reduceAdd, Int.reduceSub, Int.reduceMul, Int.reduceNeg, Int.toNat_zero, Int.reduceEq, Nat.reduceAdd, Nat.reduceSub, Nat.reduceMul, Nat.reduceLeDiff, Nat.reduceLT, Nat.reduceEqDiff, reduceCtorEq, ↓reduceIte, decide_true, decide_false, opLarge, h1, h1', e, decide_true, decide_false, Bool.false_or, Bool.true_and]
      exact Ext.app _ _
    · simp (config := { maxSteps := 200000 }) only [go_sem, Nat.zero_add, Nat.add_zero, Nat.one_mul, Nat.mul_one, Nat.zero_mul, Nat.sub_zero, Nat.le_refl, Int.toNat_natCast, Int.ofNat_lt, Int.ofNat_le, Int.natCast_nonneg, Int.le_refl, Int.cast_ofNat_Int, Int.natCast_one, Int.reduceToNat, Int.reduceLE, Int.reduceLT, Int.reduceAdd, Int.reduceSub, Int.reduceMul, Int.reduceNeg, Int.toNat_zero, Int.reduceEq, Nat.reduceAdd, Nat.reduceSub, Nat.reduceMul, Nat.reduceLeDiff, Nat.reduceLT, Nat.reduceEqDiff, reduceCtorEq, ↓reduceIte, decide_true, decide_false, opLarge, h1, h1', h2, decide_false, Bool.false_or, Bool.false_and]
      exact Ext.app _ _
theorem large_r (k : Int) (a b : List UInt8) (y : Int) : Pure Tryz.prog 76 [.agg [.int .i64 k, .str a, .str b, .int .u64 y]] (.bool (opLarge ⟨k, a, b, y⟩)) := by
  refine Pure.of_ext (.bool _) fun PS => ?_
  refine enter_76 (by unfold Tryz.f76; exact rfl) ?_
  by_cases h1 : 8 < (a.length : Int)
  · have h1' : 8 < a.length := by omega
    simp (config := { maxSteps := 200000 }) only [go_sem, Nat.zero_add, Nat.add_zero, Nat.one_mul, Nat.mul_one, Nat.zero_mul, Nat.sub_zero, Nat.le_refl, Int.toNat_natCast, Int.ofNat_lt, Int.ofNat_le, Int.natCast_nonneg, Int.le_refl, Int.cast_ofNat_Int, Int.natCast_one, Int.reduceToNat, Int.reduceLE, Int.reduceLT, Int.reduceAdd, Int.reduceSub, Int.reduceMul, Int.reduceNeg, Int.toNat_zero, Int.reduceEq, Nat.reduceAdd, Nat.reduceSub, Nat.reduceMul, Nat.reduceLeDiff, Nat.reduceLT, Nat.reduceEqDiff, reduceCtorEq, ↓reduceIte, decide_true, decide_false, opLarge, h1, h1', decide_true, Bool.true_or]
    exact Ext.app _ _
  · have h1' : ¬ 8 < a.length := by omega
    by_cases h2 : k = 1
    · subst h2
      have e : decide (16 < (b.length : Int)) = decide (16 < b.length) := by
        by_cases h3 : 16 < b.length
        · rw [decide_eq_true h3, decide_eq_true (by omega)]
        · rw [decide_eq_false h3, decide_eq_false (by omega)]
      simp (config := { maxSteps := 200000 }) only [go_sem, Nat.zero_add, Nat.add_zero, Nat.one_mul, Nat.mul_one, Nat.zero_mul, Nat.sub_zero, Nat.le_refl, Int.toNat_natCast, Int.ofNat_lt, Int.ofNat_le, Int.natCast_nonneg, Int.le_refl, Int.cast_ofNat_Int, Int.natCast_one, Int.reduceToNat, Int.reduceLE, Int.reduceLT, Int.reduceAdd, Int.reduceSub, Int.reduceMul, Int.reduceNeg, Int.toNat_zero, Int.reduceEq, Nat.reduceAdd, Nat.reduceSub, Nat.reduceMul, Nat.reduceLeDiff, Nat.reduceLT, Nat.reduceEqDiff, reduceCtorEq, ↓reduceIte, decide_true, decide_false, opLarge, h1, h1', e, decide_true, decide_false, Bool.false_or, Bool.true_and]
      exact Ext.app _ _
    · simp (config := { maxSteps := 200000 }) only [go_sem, Nat.zero_add, Nat.add_zero, Nat.one_mul, Nat.mul_one, Nat.zero_mul, Nat.sub_zero, Nat.le_refl, Int.toNat_natCast, Int.ofNat_lt, Int.ofNat_le, Int.natCast_nonneg, Int.le_refl, Int.cast_ofNat_Int, Int.natCast_one, Int.reduceToNat, Int.reduceLE, Int.reduceLT, Int.reduceAdd, Int.reduceSub, Int.reduceMul, Int.reduceNeg, Int.toNat_zero, Int.reduceEq, Nat.reduceAdd, Nat.reduceSub, Nat.reduceMul, Nat.reduceLeDiff, Nat.reduceLT, Nat.reduceEqDiff, reduceCtorEq, ↓reduceIte, decide_true, decide_false, opLarge, h1, h1', h2, decide_false, Bool.false_or, Bool.false_and]
      exact Ext.app _ _
theorem few_ (O : List (List OpH)) : Pure Tryz.prog 24 [.imm false (opsRows O)] (.bool (fewO O)) := by
  intro PS
  refine enter_24 (by unfold Tryz.f24; exact rfl) ?_
  simp (config := { maxSteps := 200000 }) only [go_sem, Nat.zero_add, Nat.add_zero, Nat.one_mul, Nat.mul_one, Nat.zero_mul, Nat.sub_zero, Nat.le_refl, Int.toNat_natCast, Int.ofNat_lt, Int.ofNat_le, Int.natCast_nonneg, Int.le_refl, Int.cast_ofNat_Int, Int.natCast_one, Int.reduceToNat, Int.reduceLE, Int.reduceLT, Int.reduceAdd, Int.reduceSub, Int.reduceMul, Int.reduceNeg, Int.toNat_zero, Int.reduceEq, Nat.reduceAdd, Nat.reduceSub, Nat.reduceMul, Nat.reduceLeDiff, Nat.reduceLT, Nat.reduceEqDiff, reduceCtorEq, ↓reduceIte, decide_true, decide_false, opsRows_len]
  intro hml
  by_cases h0 : 8 < O.length
  · have h0' : 8 < (O.length : Int) := by omega
    rw [if_pos h0']
    have : fewO O = false := by unfold fewO; rw [decide_eq_false (by omega)]; rfl
    rw [this]
  · have h0' : ¬ 8 < (O.length : Int) := by omega
    rw [if_neg h0']
    refine pend_intro (loop_rule (α := Nat) [false, false, true, false, false, false, false, true, true, true, true, true, true, true, true, true, true, true, true] (fun i => [(3, .int .i64 i)]) (fun i => O.length - i) (fun i PS' => PS' = PS ∧ i ≤ O.length ∧ ∀ l ∈ O.take i, l.length ≤ 40) 0 ⟨rfl, by omega, by simp⟩ ?_ ?_)
    · simp (config := { maxSteps := 200000 }) only [go_sem, Nat.zero_add, Nat.add_zero, Nat.one_mul, Nat.mul_one, Nat.zero_mul, Nat.sub_zero, Nat.le_refl, Int.toNat_natCast, Int.ofNat_lt, Int.ofNat_le, Int.natCast_nonneg, Int.le_refl, Int.cast_ofNat_Int, Int.natCast_one, Int.reduceToNat, Int.reduceLE, Int.reduceLT, Int.reduceAdd, Int.reduceSub, Int.reduceMul, Int.reduceNeg, Int.toNat_zero, Int.reduceEq, Nat.reduceAdd, Nat.reduceSub, Nat.reduceMul, Nat.reduceLeDiff, Nat.reduceLT, Nat.reduceEqDiff, reduceCtorEq, ↓reduceIte, decide_true, decide_false, Int.natCast_zero]
    · rintro i PS' ⟨rfl, hi, hall⟩
      by_cases hlt : i < O.length
      · by_cases hc : 40 < O[i].length
        · have hc' : 40 < (O[i].length : Int) := by omega
          simp (config := { maxSteps := 200000 }) only [go_sem, Nat.zero_add, Nat.add_zero, Nat.one_mul, Nat.mul_one, Nat.zero_mul, Nat.sub_zero, Nat.le_refl, Int.toNat_natCast, Int.ofNat_lt, Int.ofNat_le, Int.natCast_nonneg, Int.le_refl, Int.cast_ofNat_Int, Int.natCast_one, Int.reduceToNat, Int.reduceLE, Int.reduceLT, Int.reduceAdd, Int.reduceSub, Int.reduceMul, Int.reduceNeg, Int.toNat_zero, Int.reduceEq, Nat.reduceAdd, Nat.reduceSub, Nat.reduceMul, Nat.reduceLeDiff, Nat.reduceLT, Nat.reduceEqDiff, reduceCtorEq, ↓reduceIte, decide_true, decide_false, hlt, opRow_get hlt, opsRows_len, opRows_len, hc']
          intro _ _
          refine congrArg HV.bool (Eq.symm (Bool.eq_false_iff.2 fun hf => ?_))
          unfold fewO at hf
          rw [Bool.and_eq_true, List.all_eq_true] at hf
          have := hf.2 O[i] (List.getElem_mem hlt)
          rw [decide_eq_true_iff] at this
          omega
        · have hc' : ¬ 40 < (O[i].length : Int) := by omega
          simp (config := { maxSteps := 200000 }) only [go_sem, Nat.zero_add, Nat.add_zero, Nat.one_mul, Nat.mul_one, Nat.zero_mul, Nat.sub_zero, Nat.le_refl, Int.toNat_natCast, Int.ofNat_lt, Int.ofNat_le, Int.natCast_nonneg, Int.le_refl, Int.cast_ofNat_Int, Int.natCast_one, Int.reduceToNat, Int.reduceLE, Int.reduceLT, Int.reduceAdd, Int.reduceSub, Int.reduceMul, Int.reduceNeg, Int.toNat_zero, Int.reduceEq, Nat.reduceAdd, Nat.reduceSub, Nat.reduceMul, Nat.reduceLeDiff, Nat.reduceLT, Nat.reduceEqDiff, reduceCtorEq, ↓reduceIte, decide_true, decide_false, hlt, opRow_get hlt, opsRows_len, opRows_len, hc']
          intro _ _
          have hm : maxLen = 9223372036854775807 := rfl
          refine ⟨by omega, i + 1, by omega, ⟨by omega, fun l hl => ?_⟩, rfl⟩
          rw [List.take_succ_eq_append_getElem hlt, List.mem_append] at hl
          rcases hl with hl | hl
          · exact hall l hl
          · rw [List.mem_singleton.1 hl]; omega
      · simp (config := { maxSteps := 200000 }) only [go_sem, Nat.zero_add, Nat.add_zero, Nat.one_mul, Nat.mul_one, Nat.zero_mul, Nat.sub_zero, Nat.le_refl, Int.toNat_natCast, Int.ofNat_lt, Int.ofNat_le, Int.natCast_nonneg, Int.le_refl, Int.cast_ofNat_Int, Int.natCast_one, Int.reduceToNat, Int.reduceLE, Int.reduceLT, Int.reduceAdd, Int.reduceSub, Int.reduceMul, Int.reduceNeg, Int.toNat_zero, Int.reduceEq, Nat.reduceAdd, Nat.reduceSub, Nat.reduceMul, Nat.reduceLeDiff, Nat.reduceLT, Nat.reduceEqDiff, reduceCtorEq, ↓reduceIte, decide_true, decide_false, hlt, opsRows_len]
        intro _
        rw [List.take_of_length_le (by omega)] at hall
        unfold fewO
        rw [decide_eq_true (by omega : O.length ≤ 8), Bool.true_and]
        exact congrArg HV.bool (Eq.symm (List.all_eq_true.2 fun l hl => decide_eq_true (hall l hl)))
theorem few_len {O : List (List OpH)} (h : fewO O = true) : O.length ≤ 8 ∧ ∀ l ∈ O, l.length ≤ 40 := by
  unfold fewO at h
  rw [Bool.and_eq_true, List.all_eq_true, decide_eq_true_iff] at h
  exact ⟨h.1, fun l hl => of_decide_eq_true (h.2 l hl)⟩
theorem size_ (O : List (List OpH)) (h : fewO O = true) : Pure Tryz.prog 26 [.imm false (opsRows O)] (.int .i64 (oSize O)) := by
  obtain ⟨hO, hl⟩ := few_len h
  refine Pure.of_ext (.int _ _) fun PS => ?_
  refine enter_26 (by unfold Tryz.f26; exact rfl) ?_
  simp (config := { maxSteps := 200000 }) only [go_sem, Nat.zero_add, Nat.add_zero, Nat.one_mul, Nat.mul_one, Nat.zero_mul, Nat.sub_zero, Nat.le_refl, Int.toNat_natCast, Int.ofNat_lt, Int.ofNat_le, Int.natCast_nonneg, Int.le_refl, Int.cast_ofNat_Int, Int.natCast_one, Int.reduceToNat, Int.reduceLE, Int.reduceLT, Int.reduceAdd, Int.reduceSub, Int.reduceMul, Int.reduceNeg, Int.toNat_zero, Int.reduceEq, Nat.reduceAdd, Nat.reduceSub, Nat.reduceMul, Nat.reduceLeDiff, Nat.reduceLT, Nat.reduceEqDiff, reduceCtorEq, ↓reduceIte, decide_true, decide_false, opsRows_len]
  intro hml
  refine pend_intro (loop_rule (α := Nat) [false, false, false, false, false, true, false, true, false, false, false, true, true, true, true, true, true, true, true, true, true, true, true, true, true, true, true, true, true, true, true, true, true, true, true, true, true, true, true, true, true, true, true, true, true, true, true, true] (fun i => [(10, .int .i64 i), (3, .int .i64 (oSize (O.take i)))]) (fun i => O.length - i) (fun i PS' => Ext [] PS PS' ∧ i ≤ O.length) 0 ⟨Ext.refl _, by omega⟩ ?_ ?_)
  · simp (config := { maxSteps := 200000 }) only [go_sem, Nat.zero_add, Nat.add_zero, Nat.one_mul, Nat.mul_one, Nat.zero_mul, Nat.sub_zero, Nat.le_refl, Int.toNat_natCast, Int.ofNat_lt, Int.ofNat_le, Int.natCast_nonneg, Int.le_refl, Int.cast_ofNat_Int, Int.natCast_one, Int.reduceToNat, Int.reduceLE, Int.reduceLT, Int.reduceAdd, Int.reduceSub, Int.reduceMul, Int.reduceNeg, Int.toNat_zero, Int.reduceEq, Nat.reduceAdd, Nat.reduceSub, Nat.reduceMul, Nat.reduceLeDiff, Nat.reduceLT, Nat.reduceEqDiff, reduceCtorEq, ↓reduceIte, decide_true, decide_false, Int.natCast_zero, List.take_zero, oSize]
  · rintro i PS1 ⟨hE, hi⟩
    by_cases hlt : i < O.length
    · have hll := hl O[i] (List.getElem_mem hlt)
      have hn0 : oSize (O.take i) ≤ 26 * 40 * i := Nat.le_trans (oSize_le _ 40 fun l h => hl l (List.mem_of_mem_take h)) (Nat.mul_le_mul_left _ (by rw [List.length_take]; omega))
      have hnx := oSize_take O i hlt
      generalize hq : O[i] = l at hll hnx
      generalize oSize (O.take i) = n0 at hn0 hnx ⊢
      simp (config := { maxSteps := 200000 }) only [go_sem, Nat.zero_add, Nat.add_zero, Nat.one_mul, Nat.mul_one, Nat.zero_mul, Nat.sub_zero, Nat.le_refl, Int.toNat_natCast, Int.ofNat_lt, Int.ofNat_le, Int.natCast_nonneg, Int.le_refl, Int.cast_ofNat_Int, Int.natCast_one, Int.reduceToNat, Int.reduceLE, Int.reduceLT, Int.reduceAdd, Int.reduceSub, Int.reduceMul, Int.reduceNeg, Int.toNat_zero, Int.reduceEq, Nat.reduceAdd, Nat.reduceSub, Nat.reduceMul, Nat.reduceLeDiff, Nat.reduceLT, Nat.reduceEqDiff, reduceCtorEq, ↓reduceIte, decide_true, decide_false, hlt, opRow_get hlt, hq, opsRows_len, opRows_len]
      intro hml2
      refine pend_intro (loop_rule (α := Nat) [false, false, false, false, false, false, false, true, false, false, false, false, false, false, false, false, false, true, true, true, true, true, true, true, true, true, true, true, true, true, true, true, true, true, true, true, true, true, true, true, true, true, true, true, true, true, true] (fun j => [(16, .int .i64 j), (3, .int .i64 (n0 + lSize (l.take j) : Nat))]) (fun j => l.length - j) (fun j PS' => Ext [] PS PS' ∧ j ≤ l.length) 0 ⟨hE, by omega⟩ ?_ ?_)
      · simp (config := { maxSteps := 200000 }) only [go_sem, Nat.zero_add, Nat.add_zero, Nat.one_mul, Nat.mul_one, Nat.zero_mul, Nat.sub_zero, Nat.le_refl, Int.toNat_natCast, Int.ofNat_lt, Int.ofNat_le, Int.natCast_nonneg, Int.le_refl, Int.cast_ofNat_Int, Int.natCast_one, Int.reduceToNat, Int.reduceLE, Int.reduceLT, Int.reduceAdd, Int.reduceSub, Int.reduceMul, Int.reduceNeg, Int.toNat_zero, Int.reduceEq, Nat.reduceAdd, Nat.reduceSub, Nat.reduceMul, Nat.reduceLeDiff, Nat.reduceLT, Nat.reduceEqDiff, reduceCtorEq, ↓reduceIte, decide_true, decide_false, Int.natCast_zero, List.take_zero, lSize, Nat.add_zero]
      · rintro j PS2 ⟨hE2, hj⟩
        by_cases hjt : j < l.length
        · have hnj := lSize_take l j hjt
          have hnl := lSize_le (l.take j)
          rw [List.length_take] at hnl
          have hg := opRows_get hjt
          generalize l[j] = o at hg hnj
          obtain ⟨k, a, b, y⟩ := o
          simp only at hg
          generalize lSize (l.take j) = m0 at hnj hnl ⊢
          have hlast : ∀ (q : List HV) (v : Int), v = (n0 + m0 + opSize ⟨k, a, b, y⟩ : Nat) → (-9223372036854775808 ≤ (j : Int) + 1 ∧ (j : Int) + 1 ≤ 9223372036854775807) ∧ ∃ b, l.length - b < l.length - j ∧ (Ext [] PS (PS2 ++ [Piece.arr 0 4 [q] false]) ∧ b ≤ l.length) ∧ HV.int IntKind.i64 (n0 + lSize (List.take b l) : Nat) = HV.int IntKind.i64 v ∧ HV.int IntKind.i64 b = HV.int IntKind.i64 ((j : Int) + 1) :=
            fun q v hv => ⟨by omega, j + 1, by omega, ⟨hE2.trans (Ext.app _ _), by omega⟩, by rw [hnj, hv, Nat.add_assoc], rfl⟩
          by_cases hk : k = 4
          · simp (config := { maxSteps := 200000 }) only [go_sem, Nat.zero_add, Nat.add_zero, Nat.one_mul, Nat.mul_one, Nat.zero_mul, Nat.sub_zero, Nat.le_refl, Int.toNat_natCast, Int.ofNat_lt, Int.ofNat_le, Int.natCast_nonneg, Int.le_refl, Int.cast_ofNat_Int, Int.natCast_one, Int.reduceToNat, Int.reduceLE, Int.reduceLT, Int.reduceAdd, Int.reduceSub, Int.reduceMul, Int.reduceNeg, Int.toNat_zero, Int.reduceEq, Nat.reduceAdd, Nat.reduceSub, Nat.reduceMul, Nat.reduceLeDiff, Nat.reduceLT, Nat.reduceEqDiff, reduceCtorEq, ↓reduceIte, decide_true, decide_false, hjt, hg, hk, opRows_len]
            exact hlast _ _ (by rw [opSize, if_pos (.inl hk)]; rfl)
          · simp (config := { maxSteps := 200000 }) only [go_sem, Nat.zero_add, Nat.add_zero, Nat.one_mul, Nat.mul_one, Nat.zero_mul, Nat.sub_zero, Nat.le_refl, Int.toNat_natCast, Int.ofNat_lt, Int.ofNat_le, Int.natCast_nonneg, Int.le_refl, Int.cast_ofNat_Int, Int.natCast_one, Int.reduceToNat, Int.reduceLE, Int.reduceLT, Int.reduceAdd, Int.reduceSub, Int.reduceMul, Int.reduceNeg, Int.toNat_zero, Int.reduceEq, Nat.reduceAdd, Nat.reduceSub, Nat.reduceMul, Nat.reduceLeDiff, Nat.reduceLT, Nat.reduceEqDiff, reduceCtorEq, ↓reduceIte, decide_true, decide_false, hjt, hg, hk, opRows_len]
            refine pend_intro ((large_ k a b y).call ?_)
            cases hL : opLarge ⟨k, a, b, y⟩ with
            | true =>
              simp (config := { maxSteps := 200000 }) only [go_sem, Nat.zero_add, Nat.add_zero, Nat.one_mul, Nat.mul_one, Nat.zero_mul, Nat.sub_zero, Nat.le_refl, Int.toNat_natCast, Int.ofNat_lt, Int.ofNat_le, Int.natCast_nonneg, Int.le_refl, Int.cast_ofNat_Int, Int.natCast_one, Int.reduceToNat, Int.reduceLE, Int.reduceLT, Int.reduceAdd, Int.reduceSub, Int.reduceMul, Int.reduceNeg, Int.toNat_zero, Int.reduceEq, Nat.reduceAdd, Nat.reduceSub, Nat.reduceMul, Nat.reduceLeDiff, Nat.reduceLT, Nat.reduceEqDiff, reduceCtorEq, ↓reduceIte, decide_true, decide_false, hk]
              exact hlast _ _ (by rw [opSize, if_pos (.inr hL)]; rfl)
            | false =>
              have hb : a.length ≤ 8 ∧ (k = 1 → b.length ≤ 16) := by
                unfold opLarge at hL
                simp only [Bool.or_eq_false_iff, Bool.and_eq_false_iff, decide_eq_false_iff_not] at hL
                exact ⟨by omega, fun h => by rcases hL.2 with h' | h' <;> omega⟩
              have hz : opSize ⟨k, a, b, y⟩ = 2 + a.length + (if k = 1 then b.length else if k = 3 then 8 else 0) := by
                rw [opSize, if_neg (by simp [hk, hL])]
              by_cases h1 : k = 1
              · have := hb.2 h1
                simp (config := { maxSteps := 200000 }) only [go_sem, Nat.zero_add, Nat.add_zero, Nat.one_mul, Nat.mul_one, Nat.zero_mul, Nat.sub_zero, Nat.le_refl, Int.toNat_natCast, Int.ofNat_lt, Int.ofNat_le, Int.natCast_nonneg, Int.le_refl, Int.cast_ofNat_Int, Int.natCast_one, Int.reduceToNat, Int.reduceLE, Int.reduceLT, Int.reduceAdd, Int.reduceSub, Int.reduceMul, Int.reduceNeg, Int.toNat_zero, Int.reduceEq, Nat.reduceAdd, Nat.reduceSub, Nat.reduceMul, Nat.reduceLeDiff, Nat.reduceLT, Nat.reduceEqDiff, reduceCtorEq, ↓reduceIte, decide_true, decide_false, hk, h1]
                exact ⟨by omega, by omega, by omega, hlast _ _ (by rw [hz, if_pos h1]; omega)⟩
              · by_cases h3 : k = 3
                · simp (config := { maxSteps := 200000 }) only [go_sem, Nat.zero_add, Nat.add_zero, Nat.one_mul, Nat.mul_one, Nat.zero_mul, Nat.sub_zero, Nat.le_refl, Int.toNat_natCast, Int.ofNat_lt, Int.ofNat_le, Int.natCast_nonneg, Int.le_refl, Int.cast_ofNat_Int, Int.natCast_one, Int.reduceToNat, Int.reduceLE, Int.reduceLT, Int.reduceAdd, Int.reduceSub, Int.reduceMul, Int.reduceNeg, Int.toNat_zero, Int.reduceEq, Nat.reduceAdd, Nat.reduceSub, Nat.reduceMul, Nat.reduceLeDiff, Nat.reduceLT, Nat.reduceEqDiff, reduceCtorEq, ↓reduceIte, decide_true, decide_false, hk, h1, h3]
                  exact ⟨by omega, by omega, by omega, hlast _ _ (by rw [hz, if_neg h1, if_pos h3]; omega)⟩
                · simp (config := { maxSteps := 200000 }) only [go_sem, Nat.zero_add, Nat.add_zero, Nat.one_mul, Nat.mul_one, Nat.zero_mul, Nat.sub_zero, Nat.le_refl, Int.toNat_natCast, Int.ofNat_lt, Int.ofNat_le, Int.natCast_nonneg, Int.le_refl, Int.cast_ofNat_Int, Int.natCast_one, Int.reduceToNat, Int.reduceLE, Int.reduceLT, Int.reduceAdd, Int.reduceSub, Int.reduceMul, Int.reduceNeg, Int.toNat_zero, Int.reduceEq, Nat.reduceAdd, Nat.reduceSub, Nat.reduceMul, Nat.reduceLeDiff, Nat.reduceLT, Nat.reduceEqDiff, reduceCtorEq, ↓reduceIte, decide_true, decide_false, hk, h1, h3]
                  exact ⟨by omega, by omega, hlast _ _ (by rw [hz, if_neg h1, if_neg h3]; omega)⟩
        · simp (config := { maxSteps := 200000 }) only [go_sem, Nat.zero_add, Nat.add_zero, Nat.one_mul, Nat.mul_one, Nat.zero_mul, Nat.sub_zero, Nat.le_refl, Int.toNat_natCast, Int.ofNat_lt, Int.ofNat_le, Int.natCast_nonneg, Int.le_refl, Int.cast_ofNat_Int, Int.natCast_one, Int.reduceToNat, Int.reduceLE, Int.reduceLT, Int.reduceAdd, Int.reduceSub, Int.reduceMul, Int.reduceNeg, Int.toNat_zero, Int.reduceEq, Nat.reduceAdd, Nat.reduceSub, Nat.reduceMul, Nat.reduceLeDiff, Nat.reduceLT, Nat.reduceEqDiff, reduceCtorEq, ↓reduceIte, decide_true, decide_false, hjt, opRows_len]
          have : j = l.length := by omega
          subst this
          rw [List.take_length]
          exact ⟨by omega, i + 1, by omega, ⟨hE2, by omega⟩, by rw [hnx], rfl⟩
    · simp (config := { maxSteps := 200000 }) only [go_sem, Nat.zero_add, Nat.add_zero, Nat.one_mul, Nat.mul_one, Nat.zero_mul, Nat.sub_zero, Nat.le_refl, Int.toNat_natCast, Int.ofNat_lt, Int.ofNat_le, Int.natCast_nonneg, Int.le_refl, Int.cast_ofNat_Int, Int.natCast_one, Int.reduceToNat, Int.reduceLE, Int.reduceLT, Int.reduceAdd, Int.reduceSub, Int.reduceMul, Int.reduceNeg, Int.toNat_zero, Int.reduceEq, Nat.reduceAdd, Nat.reduceSub, Nat.reduceMul, Nat.reduceLeDiff, Nat.reduceLT, Nat.reduceEqDiff, reduceCtorEq, ↓reduceIte, decide_true, decide_false, hlt, opsRows_len, opRows_len]
      have : i = O.length := by omega
      subst this
      rw [List.take_length]
      exact ⟨rfl, hE⟩
theorem size_r (O : List (List OpH)) (h : fewO O = true) : Pure Tryz.prog 27 [.imm false (opsRows O)] (.int .i64 (oSize O)) := by
  obtain ⟨hO, hl⟩ := few_len h
  refine Pure.of_ext (.int _ _) fun PS => ?_
  refine enter_27 (by unfold Tryz.f27; exact rfl) ?_
  simp (config := { maxSteps := 200000 }) only [go_sem, Nat.zero_add, Nat.add_zero, Nat.one_mul, Nat.mul_one, Nat.zero_mul, Nat.sub_zero, Nat.le_refl, Int.toNat_natCast, Int.ofNat_lt, Int.ofNat_le, Int.natCast_nonneg, Int.le_refl, Int.cast_ofNat_Int, Int.natCast_one, Int.reduceToNat, Int.reduceLE, Int.reduceLT, Int.reduceAdd, Int.reduceSub, Int.reduceMul, Int.reduceNeg, Int.toNat_zero, Int.reduceEq, Nat.reduceAdd, Nat.reduceSub, Nat.reduceMul, Nat.reduceLeDiff, Nat.reduceLT, Nat.reduceEqDiff, reduceCtorEq, ↓reduceIte, decide_true, decide_false, opsRows_len]
  refine pend_intro (loop_rule (α := Nat) [false, false, false, false, false, true, true, true, true, true, true, true, true, true, true, true, true, true, true, true, true, true, true, true, true, true, true, true, true, true, true, true, true, true, true, true, true, true, true, true, true, true, true, true, true, true, true, true, true, true, true, true, true, true, true] (fun i => [(4, .int .i64 i), (3, .int .i64 (oSize (O.take i)))]) (fun i => O.length - i) (fun i PS' => Ext [] PS PS' ∧ i ≤ O.length) 0 ⟨Ext.refl _, by omega⟩ ?_ ?_)
  · simp (config := { maxSteps := 200000 }) only [go_sem, Nat.zero_add, Nat.add_zero, Nat.one_mul, Nat.mul_one, Nat.zero_mul, Nat.sub_zero, Nat.le_refl, Int.toNat_natCast, Int.ofNat_lt, Int.ofNat_le, Int.natCast_nonneg, Int.le_refl, Int.cast_ofNat_Int, Int.natCast_one, Int.reduceToNat, Int.reduceLE, Int.reduceLT, Int.reduceAdd, Int.reduceSub, Int.reduceMul, Int.reduceNeg, Int.toNat_zero, Int.reduceEq, Nat.reduceAdd, Nat.reduceSub, Nat.reduceMul, Nat.reduceLeDiff, Nat.reduceLT, Nat.reduceEqDiff, reduceCtorEq, ↓reduceIte, decide_true, decide_false, Int.natCast_zero, List.take_zero, oSize]
  · rintro i PS1 ⟨hE, hi⟩
    by_cases hlt : i < O.length
    · have hll := hl O[i] (List.getElem_mem hlt)
      have hn0 : oSize (O.take i) ≤ 26 * 40 * i := Nat.le_trans (oSize_le _ 40 fun l h => hl l (List.mem_of_mem_take h)) (Nat.mul_le_mul_left _ (by rw [List.length_take]; omega))
      have hnx := oSize_take O i hlt
      have hgo := opRow_get hlt
      generalize O[i] = l at hll hnx hgo
      generalize oSize (O.take i) = n0 at hn0 hnx ⊢
      simp (config := { maxSteps := 200000 }) only [go_sem, Nat.zero_add, Nat.add_zero, Nat.one_mul, Nat.mul_one, Nat.zero_mul, Nat.sub_zero, Nat.le_refl, Int.toNat_natCast, Int.ofNat_lt, Int.ofNat_le, Int.natCast_nonneg, Int.le_refl, Int.cast_ofNat_Int, Int.natCast_one, Int.reduceToNat, Int.reduceLE, Int.reduceLT, Int.reduceAdd, Int.reduceSub, Int.reduceMul, Int.reduceNeg, Int.toNat_zero, Int.reduceEq, Nat.reduceAdd, Nat.reduceSub, Nat.reduceMul, Nat.reduceLeDiff, Nat.reduceLT, Nat.reduceEqDiff, reduceCtorEq, ↓reduceIte, decide_true, decide_false, hlt, hgo, opsRows_len, opRows_len]
      refine fun hml2 => pend_intro (loop_rule (α := Nat) [false, false, false, false, false, false, true, false, false, false, false, false, false, true, true, true, true, true, true, true, true, true, true, true, true, true, true, true, true, true, true, true, true, true, true, true, true, true, true, true, true, true, true, true, true, true, true, true, true, true, true, true, true, true, true] (fun j => [(5, .int .i64 j), (3, .int .i64 (n0 + lSize (l.take j) : Nat))]) (fun j => l.length - j) (fun j PS' => Ext [] PS PS' ∧ j ≤ l.length) 0 ⟨hE, by omega⟩ ?_ ?_)
      · simp (config := { maxSteps := 200000 }) only [go_sem, Nat.zero_add, Nat.add_zero, Nat.one_mul, Nat.mul_one, Nat.zero_mul, Nat.sub_zero, Nat.le_refl, Int.toNat_natCast, Int.ofNat_lt, Int.ofNat_le, Int.natCast_nonneg, Int.le_refl, Int.cast_ofNat_Int, Int.natCast_one, Int.reduceToNat, Int.reduceLE, Int.reduceLT, Int.reduceAdd, Int.reduceSub, Int.reduceMul, Int.reduceNeg, Int.toNat_zero, Int.reduceEq, Nat.reduceAdd, Nat.reduceSub, Nat.reduceMul, Nat.reduceLeDiff, Nat.reduceLT, Nat.reduceEqDiff, reduceCtorEq, ↓reduceIte, decide_true, decide_false, Int.natCast_zero, List.take_zero, lSize, Nat.add_zero]
      · rintro j PS2 ⟨hE2, hj⟩
        by_cases hjt : j < l.length
        · have hnj := lSize_take l j hjt
          have hnl := lSize_le (l.take j)
          rw [List.length_take] at hnl
          have hg := opRows_get hjt
          generalize l[j] = o at hg hnj
          obtain ⟨k, a, b, y⟩ := o
          simp only at hg
          generalize lSize (l.take j) = m0 at hnj hnl ⊢
          have hlast : ∀ (q : List HV) (v : Int), v = (n0 + m0 + opSize ⟨k, a, b, y⟩ : Nat) → (-9223372036854775808 ≤ (j : Int) + 1 ∧ (j : Int) + 1 ≤ 9223372036854775807) ∧ ∃ b, l.length - b < l.length - j ∧ (Ext [] PS (PS2 ++ [Piece.arr 0 4 [q] false]) ∧ b ≤ l.length) ∧ HV.int IntKind.i64 (n0 + lSize (List.take b l) : Nat) = HV.int IntKind.i64 v ∧ HV.int IntKind.i64 b = HV.int IntKind.i64 ((j : Int) + 1) :=
            fun q v hv => ⟨by omega, j + 1, by omega, ⟨hE2.trans (Ext.app _ _), by omega⟩, by rw [hnj, hv, Nat.add_assoc], rfl⟩
          by_cases hk : k = 4
          · simp (config := { maxSteps := 200000 }) only [go_sem, Nat.zero_add, Nat.add_zero, Nat.one_mul, Nat.mul_one, Nat.zero_mul, Nat.sub_zero, Nat.le_refl, Int.toNat_natCast, Int.ofNat_lt, Int.ofNat_le, Int.natCast_nonneg, Int.le_refl, Int.cast_ofNat_Int, Int.natCast_one, Int.reduceToNat, Int.reduceLE, Int.reduceLT, Int.reduceAdd, Int.reduceSub, Int.reduceMul, Int.reduceNeg, Int.toNat_zero, Int.reduceEq, Nat.reduceAdd, Nat.reduceSub, Nat.reduceMul, Nat.reduceLeDiff, Nat.reduceLT, Nat.reduceEqDiff, reduceCtorEq, ↓reduceIte, decide_true, decide_false, hjt, hlt, hgo, hg, hk, opRows_len, opsRows_len]
            intro _
            exact hlast _ _ (by rw [opSize, if_pos (.inl hk)]; rfl)
          · simp (config := { maxSteps := 200000 }) only [go_sem, Nat.zero_add, Nat.add_zero, Nat.one_mul, Nat.mul_one, Nat.zero_mul, Nat.sub_zero, Nat.le_refl, Int.toNat_natCast, Int.ofNat_lt, Int.ofNat_le, Int.natCast_nonneg, Int.le_refl, Int.cast_ofNat_Int, Int.natCast_one, Int.reduceToNat, Int.reduceLE, Int.reduceLT, Int.reduceAdd, Int.reduceSub, Int.reduceMul, Int.reduceNeg, Int.toNat_zero, Int.reduceEq, Nat.reduceAdd, Nat.reduceSub, Nat.reduceMul, Nat.reduceLeDiff, Nat.reduceLT, Nat.reduceEqDiff, reduceCtorEq, ↓reduceIte, decide_true, decide_false, hjt, hlt, hgo, hg, hk, opRows_len, opsRows_len]
            intro _
            refine pend_intro ((large_r k a b y).call ?_)
            cases hL : opLarge ⟨k, a, b, y⟩ with
            | true =>
              simp (config := { maxSteps := 200000 }) only [go_sem, Nat.zero_add, Nat.add_zero, Nat.one_mul, Nat.mul_one, Nat.zero_mul, Nat.sub_zero, Nat.le_refl, Int.toNat_natCast, Int.ofNat_lt, Int.ofNat_le, Int.natCast_nonneg, Int.le_refl, Int.cast_ofNat_Int, Int.natCast_one, Int.reduceToNat, Int.reduceLE, Int.reduceLT, Int.reduceAdd, Int.reduceSub, Int.reduceMul, Int.reduceNeg, Int.toNat_zero, Int.reduceEq, Nat.reduceAdd, Nat.reduceSub, Nat.reduceMul, Nat.reduceLeDiff, Nat.reduceLT, Nat.reduceEqDiff, reduceCtorEq, ↓reduceIte, decide_true, decide_false, hk]
              exact hlast _ _ (by rw [opSize, if_pos (.inr hL)]; rfl)
            | false =>
              have hb : a.length ≤ 8 ∧ (k = 1 → b.length ≤ 16) := by
                unfold opLarge at hL
                simp only [Bool.or_eq_false_iff, Bool.and_eq_false_iff, decide_eq_false_iff_not] at hL
                exact ⟨by omega, fun h => by rcases hL.2 with h' | h' <;> omega⟩
              have hz : opSize ⟨k, a, b, y⟩ = 2 + a.length + (if k = 1 then b.length else if k = 3 then 8 else 0) := by
                rw [opSize, if_neg (by simp [hk, hL])]
              by_cases h1 : k = 1
              · have := hb.2 h1
                simp (config := { maxSteps := 200000 }) only [go_sem, Nat.zero_add, Nat.add_zero, Nat.one_mul, Nat.mul_one, Nat.zero_mul, Nat.sub_zero, Nat.le_refl, Int.toNat_natCast, Int.ofNat_lt, Int.ofNat_le, Int.natCast_nonneg, Int.le_refl, Int.cast_ofNat_Int, Int.natCast_one, Int.reduceToNat, Int.reduceLE, Int.reduceLT, Int.reduceAdd, Int.reduceSub, Int.reduceMul, Int.reduceNeg, Int.toNat_zero, Int.reduceEq, Nat.reduceAdd, Nat.reduceSub, Nat.reduceMul, Nat.reduceLeDiff, Nat.reduceLT, Nat.reduceEqDiff, reduceCtorEq, ↓reduceIte, decide_true, decide_false, hk, h1]
                exact ⟨by omega, by omega, by omega, hlast _ _ (by rw [hz, if_pos h1]; omega)⟩
              · by_cases h3 : k = 3
                · simp (config := { maxSteps := 200000 }) only [go_sem, Nat.zero_add, Nat.add_zero, Nat.one_mul, Nat.mul_one, Nat.zero_mul, Nat.sub_zero, Nat.le_refl, Int.toNat_natCast, Int.ofNat_lt, Int.ofNat_le, Int.natCast_nonneg, Int.le_refl, Int.cast_ofNat_Int, Int.natCast_one, Int.reduceToNat, Int.reduceLE, Int.reduceLT, Int.reduceAdd, Int.reduceSub, Int.reduceMul, Int.reduceNeg, Int.toNat_zero, Int.reduceEq, Nat.reduceAdd, Nat.reduceSub, Nat.reduceMul, Nat.reduceLeDiff, Nat.reduceLT, Nat.reduceEqDiff, reduceCtorEq, ↓reduceIte, decide_true, decide_false, hk, h1, h3]
                  exact ⟨by omega, by omega, by omega, hlast _ _ (by rw [hz, if_neg h1, if_pos h3]; omega)⟩
                · simp (config := { maxSteps := 200000 }) only [go_sem, Nat.zero_add, Nat.add_zero, Nat.one_mul, Nat.mul_one, Nat.zero_mul, Nat.sub_zero, Nat.le_refl, Int.toNat_natCast, Int.ofNat_lt, Int.ofNat_le, Int.natCast_nonneg, Int.le_refl, Int.cast_ofNat_Int, Int.natCast_one, Int.reduceToNat, Int.reduceLE, Int.reduceLT, Int.reduceAdd, Int.reduceSub, Int.reduceMul, Int.reduceNeg, Int.toNat_zero, Int.reduceEq, Nat.reduceAdd, Nat.reduceSub, Nat.reduceMul, Nat.reduceLeDiff, Nat.reduceLT, Nat.reduceEqDiff, reduceCtorEq, ↓reduceIte, decide_true, decide_false, hk, h1, h3]
                  exact ⟨by omega, by omega, hlast _ _ (by rw [hz, if_neg h1, if_neg h3]; omega)⟩
        · simp (config := { maxSteps := 200000 }) only [go_sem, Nat.zero_add, Nat.add_zero, Nat.one_mul, Nat.mul_one, Nat.zero_mul, Nat.sub_zero, Nat.le_refl, Int.toNat_natCast, Int.ofNat_lt, Int.ofNat_le, Int.natCast_nonneg, Int.le_refl, Int.cast_ofNat_Int, Int.natCast_one, Int.reduceToNat, Int.reduceLE, Int.reduceLT, Int.reduceAdd, Int.reduceSub, Int.reduceMul, Int.reduceNeg, Int.toNat_zero, Int.reduceEq, Nat.reduceAdd, Nat.reduceSub, Nat.reduceMul, Nat.reduceLeDiff, Nat.reduceLT, Nat.reduceEqDiff, reduceCtorEq, ↓reduceIte, decide_true, decide_false, hjt, hlt, hgo, opRows_len, opsRows_len]
          have : j = l.length := by omega
          subst this
          rw [List.take_length]
          exact fun _ => ⟨by omega, i + 1, by omega, ⟨hE2, by omega⟩, by rw [hnx], rfl⟩
    · simp (config := { maxSteps := 200000 }) only [go_sem, Nat.zero_add, Nat.add_zero, Nat.one_mul, Nat.mul_one, Nat.zero_mul, Nat.sub_zero, Nat.le_refl, Int.toNat_natCast, Int.ofNat_lt, Int.ofNat_le, Int.natCast_nonneg, Int.le_refl, Int.cast_ofNat_Int, Int.natCast_one, Int.reduceToNat, Int.reduceLE, Int.reduceLT, Int.reduceAdd, Int.reduceSub, Int.reduceMul, Int.reduceNeg, Int.toNat_zero, Int.reduceEq, Nat.reduceAdd, Nat.reduceSub, Nat.reduceMul, Nat.reduceLeDiff, Nat.reduceLT, Nat.reduceEqDiff, reduceCtorEq, ↓reduceIte, decide_true, decide_false, hlt, opsRows_len, opRows_len]
      have : i = O.length := by omega
      subst this
      rw [List.take_length]
      exact fun _ => ⟨rfl, hE⟩
end Go.Proofs.YtocplecibgckoaaGreat
