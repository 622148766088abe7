/-
  Keys and values of texts.
  No conditions.
-/
import Derived.Test.YtmnhpggplblbgaaGreatHlA
namespace Go.Proofs.YtmnhpggplblbgaaGreat
open Go Go.Eng Go.Mo
set_option linter.unusedSectionVars false
variable [Toks]
set_option maxRecDepth 20000
set_option linter.unusedSimpArgs false
attribute [local irreducible] hvc hops hop hplan hdrawP hval1 hopD HLoop
theorem flat_bytes : ∀ s : Bs, (bytesRows s).flatten = u8s s
  | [] => rfl
  | a :: l => by
    have := flat_bytes l
    simp only [bytesRows, u8s, List.map_cons, List.flatten_cons, List.cons_append, List.nil_append] at this ⊢
    rw [this]
theorem key_of (s : Bs) (h : okK s) : Pure Tryz.prog 294 [.str s] (.tup [.agg (keyL s), .int .i64 0]) := by
  refine Pure.of_ext (tup2_sc (keyL_sc' _ _) (.int _ _)) fun PS => ?_
  refine enter_294 (by unfold Tryz.f294; exact rfl) ?_
  have h' : s.length ≤ 8 := h
  have e1 : ¬ (8 : Int) < (s.length : Int) := by omega
  have e3 : List.take 8 (bytesRows s) = bytesRows s := List.take_of_length_le (by simp [bytesRows]; omega)
  have e5 := flat_bytes s
  have eL : (bytesRows s).length = s.length := by simp [bytesRows]
  have e4 : ∀ n m x, List.drop n (List.replicate m x : List HV) = List.replicate (m - n) x := fun _ _ _ => List.drop_replicate
  simp (config := { maxSteps := 200000 }) only [go_sem, Nat.zero_add, Nat.add_zero, Nat.one_mul, Nat.mul_one, Nat.zero_mul, Nat.sub_zero, Nat.le_refl, Int.toNat_natCast, Int.ofNat_lt, Int.ofNat_le, Int.natCast_nonneg, Int.le_refl, Int.cast_ofNat_Int, Int.natCast_one, Int.reduceToNat, Int.reduceLE, Int.reduceLT, Int.reduceAdd, Int.reduceSub, Int.reduceMul, Int.reduceNeg, Int.toNat_zero, Int.reduceEq, Nat.reduceAdd, Nat.reduceSub, Nat.reduceMul, Nat.reduceLeDiff, Nat.reduceLT, Nat.reduceEqDiff, reduceCtorEq, ↓reduceIte, decide_true, decide_false, e1, e3, e5, eL, e4, u8s_len, List.length_replicate, List.replicate_zero, List.append_nil, pad_full h']
  exact ⟨by simp [ones_iff, HV.one], rfl, Ext.app _ _⟩
theorem value_of_imm (PS : PL) (t : Bool) (s : Bs) (h : okV s) : HCall Tryz.prog 308 [.imm t (bytesRows s)] PS fun r PS' => r = .agg (valL s) ∧ PS' = PS := by
  refine HCall.data (valL_sc' _ _) ?_
  refine enter_308 (by unfold Tryz.f308; exact rfl) ?_
  have h' : s.length ≤ 16 := h
  have e3 : List.take 16 (bytesRows s) = bytesRows s := List.take_of_length_le (by simp [bytesRows]; omega)
  have e5 := flat_bytes s
  have eL : (bytesRows s).length = s.length := by simp [bytesRows]
  have e4 : ∀ n m x, List.drop n (List.replicate m x : List HV) = List.replicate (m - n) x := fun _ _ _ => List.drop_replicate
  simp (config := { maxSteps := 200000 }) only [go_sem, Nat.zero_add, Nat.add_zero, Nat.one_mul, Nat.mul_one, Nat.zero_mul, Nat.sub_zero, Nat.le_refl, Int.toNat_natCast, Int.ofNat_lt, Int.ofNat_le, Int.natCast_nonneg, Int.le_refl, Int.cast_ofNat_Int, Int.natCast_one, Int.reduceToNat, Int.reduceLE, Int.reduceLT, Int.reduceAdd, Int.reduceSub, Int.reduceMul, Int.reduceNeg, Int.toNat_zero, Int.reduceEq, Nat.reduceAdd, Nat.reduceSub, Nat.reduceMul, Nat.reduceLeDiff, Nat.reduceLT, Nat.reduceEqDiff, reduceCtorEq, ↓reduceIte, decide_true, decide_false, e3, e5, eL, e4, u8s_len, List.length_replicate, List.replicate_zero, List.append_nil, pad_full h']
  exact fun _ => ⟨by simp [ones_iff, HV.one], rfl, Ext.app _ _⟩
theorem value_of (s : Bs) (h : okV s) : Pure Tryz.prog 295 [.str s] (.tup [.agg (valL s), .int .i64 0]) := by
  refine Pure.of_ext (tup2_sc (valL_sc' _ _) (.int _ _)) fun PS => ?_
  refine enter_295 (by unfold Tryz.f295; exact rfl) ?_
  have h' : s.length ≤ 16 := h
  have e1 : ¬ (16 : Int) < (s.length : Int) := by omega
  simp (config := { maxSteps := 200000 }) only [go_sem, Nat.zero_add, Nat.add_zero, Nat.one_mul, Nat.mul_one, Nat.zero_mul, Nat.sub_zero, Nat.le_refl, Int.toNat_natCast, Int.ofNat_lt, Int.ofNat_le, Int.natCast_nonneg, Int.le_refl, Int.cast_ofNat_Int, Int.natCast_one, Int.reduceToNat, Int.reduceLE, Int.reduceLT, Int.reduceAdd, Int.reduceSub, Int.reduceMul, Int.reduceNeg, Int.toNat_zero, Int.reduceEq, Nat.reduceAdd, Nat.reduceSub, Nat.reduceMul, Nat.reduceLeDiff, Nat.reduceLT, Nat.reduceEqDiff, reduceCtorEq, ↓reduceIte, decide_true, decide_false, e1]
  refine ⟨by omega, pend_intro ((value_of_imm _ _ s h).mono ?_)⟩
  rintro r PS' ⟨rfl, rfl⟩
  have e4 : ∀ n m x, List.drop n (List.replicate m x : List HV) = List.replicate (m - n) x := fun _ _ _ => List.drop_replicate
  simp (config := { maxSteps := 200000 }) only [go_sem, Nat.zero_add, Nat.add_zero, Nat.one_mul, Nat.mul_one, Nat.zero_mul, Nat.sub_zero, Nat.le_refl, Int.toNat_natCast, Int.ofNat_lt, Int.ofNat_le, Int.natCast_nonneg, Int.le_refl, Int.cast_ofNat_Int, Int.natCast_one, Int.reduceToNat, Int.reduceLE, Int.reduceLT, Int.reduceAdd, Int.reduceSub, Int.reduceMul, Int.reduceNeg, Int.toNat_zero, Int.reduceEq, Nat.reduceAdd, Nat.reduceSub, Nat.reduceMul, Nat.reduceLeDiff, Nat.reduceLT, Nat.reduceEqDiff, reduceCtorEq, ↓reduceIte, decide_true, decide_false, e4, List.length_replicate, List.replicate_zero, List.append_nil]
  exact Ext.app _ _
end Go.Proofs.YtmnhpggplblbgaaGreat
