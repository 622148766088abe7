/-
  Keys by a number, keys compared: as contracts.
  No conditions.
-/
import Derived.Test.YtcimbpdkejgnlaaGreatHlO
import Derived.Test.YtcimbpdkejgnlaaGreatStrA
namespace Go.Mo
open Go Go.Eng
set_option linter.unusedSectionVars false
variable [Toks]
abbrev cmpB : Bs → Bs → Int := Lib.compareBytes
def keyH (n : Nat) (k : Bs) : List HV := .int .i64 n :: u8s (pad 8 k)
@[go_sem ↓, go_sem] theorem keyH_len (n : Nat) (k : Bs) : (keyH n k).length = 9 := by simp [keyH, len_pad]
@[go_sem ↓, go_sem] theorem keyH_one (n : Nat) (k : Bs) : ones (keyH n k) = True := by simp [keyH, ones, HV.one, ones_u8s]
@[go_sem ↓, go_sem] theorem keyH_all (n : Nat) (k : Bs) : (keyH n k).take 9 = keyH n k := List.take_of_length_le (by rw [keyH_len]; omega)
@[go_sem ↓, go_sem] theorem keyH_drop (n : Nat) (k : Bs) : (keyH n k).drop 9 = [] := List.drop_of_length_le (by rw [keyH_len]; omega)
@[go_sem ↓, go_sem] theorem keyL_drop (k : Bs) : (keyL k).drop 9 = [] := List.drop_of_length_le (by rw [keyL_len]; omega)
theorem splice_at {α : Type} (A R : List α) (z x : α) : hsplice A.length [x] (A ++ z :: R) = A ++ x :: R := by simp [hsplice]
theorem pad_set {m : Nat} {s : Bs} {i : Nat} (hi : i < s.length) (hm : s.length ≤ m) : hsplice i [HV.int .u8 s[i].toNat] (u8s (pad m (s.take i))) = u8s (pad m (s.take (i + 1))) := by
  have l1 : (s.take i).length = i := by simp; omega
  have l2 : (s.take (i + 1)).length = i + 1 := by simp; omega
  rw [pad_eq (by omega), pad_eq (by omega), l1, l2]
  obtain ⟨q, hq⟩ : ∃ q, m - i = q + 1 := ⟨m - i - 1, by omega⟩
  have hq' : m - (i + 1) = q := by omega
  rw [hq, hq', List.replicate_succ, List.take_succ_eq_append_getElem hi]
  have := splice_at (u8s (s.take i)) (u8s (List.replicate q 0)) (.int .u8 0) (.int .u8 s[i].toNat)
  rw [u8s_len, l1] at this
  simp only [u8s, List.map_append, List.map_cons, List.map_nil, List.append_assoc, List.cons_append, List.nil_append] at this ⊢
  exact this
theorem keyH_set {n : Nat} {s : Bs} {i : Nat} (hi : i < s.length) (hm : s.length ≤ 8) : hsplice (1 + i) [HV.int .u8 s[i].toNat] (keyH n (s.take i)) = keyH n (s.take (i + 1)) := by
  rw [keyH, keyH, ← pad_set hi hm, Nat.add_comm]; simp [hsplice, Nat.add_right_comm]
theorem u8_of_nat (n : Nat) : ((UInt8.ofNat n).toNat : Int) = IntKind.u8.wrap n := by
  show _ = (n : Int) % 256
  simp
end Go.Mo
namespace Go.Proofs.YtcimbpdkejgnlaaGreat
open Go Go.Eng Go.Mo
set_option linter.unusedSectionVars false
section
variable [Toks]
set_option maxRecDepth 20000
set_option linter.unusedSimpArgs false
attribute [local irreducible] hvc hops hop hplan hdrawP hval1 hopD HLoop
theorem rkey_of (s : Bs) (h : s.length ≤ 8) : Pure Tryz.prog 110 [.str s] (.tup [.agg (keyL s), .int .i64 0]) := by
  refine Pure.of_ext (tup2_sc (keyL_sc' _ _) (.int _ _)) fun PS => ?_
  refine enter_110 (by unfold Tryz.f110; exact rfl) ?_
  have e2 : ¬ (8 : Int) < (s.length : Int) := by omega
  simp (config := { maxSteps := 200000 }) only [go_sem, Nat.zero_add, Nat.add_zero, Nat.one_mul, Nat.mul_one, Nat.zero_mul, Nat.sub_zero, Nat.le_refl, Int.toNat_natCast, Int.ofNat_lt, Int.ofNat_le, Int.natCast_nonneg, Int.le_refl, Int.cast_ofNat_Int, Int.natCast_one, Int.reduceToNat, Int.reduceLE, Int.reduceLT, Int.reduceAdd, Int.reduceSub, Int.reduceMul, Int.reduceNeg, Int.toNat_zero, Int.reduceEq, Nat.reduceAdd, Nat.reduceSub, Nat.reduceMul, Nat.reduceLeDiff, Nat.reduceLT, Nat.reduceEqDiff, reduceCtorEq, ↓reduceIte, decide_true, decide_false, e2, List.length_replicate]
  refine ⟨by simp [ones_iff, HV.one], pend_intro (loop_rule (α := Nat) [false, false, false, false, false, false, false, false, false, false, false, false, false, false, true, true, true, true, true, true, true, true, true, true, true, true] (fun i => [(5, .int .i64 i)]) (fun i => s.length - i) (fun i PS' => i ≤ s.length ∧ PS' = PS ++ [.arr 0 9 [keyH 0 []] false, .arr 0 9 [keyH s.length (s.take i)] false]) 0 ⟨by omega, by simp [keyH, pad, u8s]⟩ ?_ ?_)⟩
  · simp (config := { maxSteps := 200000 }) only [go_sem, Nat.zero_add, Nat.add_zero, Nat.one_mul, Nat.mul_one, Nat.zero_mul, Nat.sub_zero, Nat.le_refl, Int.toNat_natCast, Int.ofNat_lt, Int.ofNat_le, Int.natCast_nonneg, Int.le_refl, Int.cast_ofNat_Int, Int.natCast_one, Int.reduceToNat, Int.reduceLE, Int.reduceLT, Int.reduceAdd, Int.reduceSub, Int.reduceMul, Int.reduceNeg, Int.toNat_zero, Int.reduceEq, Nat.reduceAdd, Nat.reduceSub, Nat.reduceMul, Nat.reduceLeDiff, Nat.reduceLT, Nat.reduceEqDiff, reduceCtorEq, ↓reduceIte, decide_true, decide_false, Int.natCast_zero]
  · intro i PS' hh
    obtain ⟨h1, he⟩ := hh
    subst he
    by_cases hlt : i < s.length
    · have hg : s[i]? = some s[i] := by simp [hlt]
      have hi : (i : Int) < 8 := by omega
      simp (config := { maxSteps := 200000 }) only [go_sem, Nat.zero_add, Nat.add_zero, Nat.one_mul, Nat.mul_one, Nat.zero_mul, Nat.sub_zero, Nat.le_refl, Int.toNat_natCast, Int.ofNat_lt, Int.ofNat_le, Int.natCast_nonneg, Int.le_refl, Int.cast_ofNat_Int, Int.natCast_one, Int.reduceToNat, Int.reduceLE, Int.reduceLT, Int.reduceAdd, Int.reduceSub, Int.reduceMul, Int.reduceNeg, Int.toNat_zero, Int.reduceEq, Nat.reduceAdd, Nat.reduceSub, Nat.reduceMul, Nat.reduceLeDiff, Nat.reduceLT, Nat.reduceEqDiff, reduceCtorEq, ↓reduceIte, decide_true, decide_false, hlt, getP_last, set_last, hg, hi, keyH_set hlt h]
      exact ⟨by omega, by omega, i + 1, by omega, ⟨by omega, rfl⟩, by simp⟩
    · simp (config := { maxSteps := 200000 }) only [go_sem, Nat.zero_add, Nat.add_zero, Nat.one_mul, Nat.mul_one, Nat.zero_mul, Nat.sub_zero, Nat.le_refl, Int.toNat_natCast, Int.ofNat_lt, Int.ofNat_le, Int.natCast_nonneg, Int.le_refl, Int.cast_ofNat_Int, Int.natCast_one, Int.reduceToNat, Int.reduceLE, Int.reduceLT, Int.reduceAdd, Int.reduceSub, Int.reduceMul, Int.reduceNeg, Int.toNat_zero, Int.reduceEq, Nat.reduceAdd, Nat.reduceSub, Nat.reduceMul, Nat.reduceLeDiff, Nat.reduceLT, Nat.reduceEqDiff, reduceCtorEq, ↓reduceIte, decide_true, decide_false, hlt, getP_last]
      rw [List.take_of_length_le (by omega)]
      exact ⟨rfl, Ext.app _ _⟩
theorem bytesOf_u8s (b : Bs) : bytesOf ((u8s b).map fun y => [y]) = some b := by
  have : (u8s b).map (fun y => [y]) = bytesRows b := by simp [u8s, bytesRows]
  rw [this]; exact bytesOf_rows b
theorem key_text (k : Bs) (hk : okK k) : Pure Tryz.prog 357 [.agg (keyL k)] (.str k) := by
  refine Pure.of_ext (.str _) fun PS => ?_
  refine enter_357 (by unfold Tryz.f357; exact rfl) ?_
  simp (config := { maxSteps := 200000 }) only [go_sem, Nat.zero_add, Nat.add_zero, Nat.one_mul, Nat.mul_one, Nat.zero_mul, Nat.sub_zero, Nat.le_refl, Int.toNat_natCast, Int.ofNat_lt, Int.ofNat_le, Int.natCast_nonneg, Int.le_refl, Int.cast_ofNat_Int, Int.natCast_one, Int.reduceToNat, Int.reduceLE, Int.reduceLT, Int.reduceAdd, Int.reduceSub, Int.reduceMul, Int.reduceNeg, Int.toNat_zero, Int.reduceEq, Nat.reduceAdd, Nat.reduceSub, Nat.reduceMul, Nat.reduceLeDiff, Nat.reduceLT, Nat.reduceEqDiff, reduceCtorEq, ↓reduceIte, decide_true, decide_false]
  refine pend_intro ((key_check k hk).call ?_)
  have hk' : k.length ≤ 8 := hk
  simp (config := { maxSteps := 200000 }) only [go_sem, Nat.zero_add, Nat.add_zero, Nat.one_mul, Nat.mul_one, Nat.zero_mul, Nat.sub_zero, Nat.le_refl, Int.toNat_natCast, Int.ofNat_lt, Int.ofNat_le, Int.natCast_nonneg, Int.le_refl, Int.cast_ofNat_Int, Int.natCast_one, Int.reduceToNat, Int.reduceLE, Int.reduceLT, Int.reduceAdd, Int.reduceSub, Int.reduceMul, Int.reduceNeg, Int.toNat_zero, Int.reduceEq, Nat.reduceAdd, Nat.reduceSub, Nat.reduceMul, Nat.reduceLeDiff, Nat.reduceLT, Nat.reduceEqDiff, reduceCtorEq, ↓reduceIte, decide_true, decide_false, take_u8s hk', bytesOf_u8s]
  exact ⟨by omega, by omega, Ext.app _ _⟩
theorem key_cmp (a b : Bs) (ha : okK a) (hb : okK b) : Pure Tryz.prog 265 [.agg (keyL a), .agg (keyL b)] (.int .i64 (cmpB a b)) := by
  refine Pure.of_ext (.int _ _) fun PS => ?_
  refine enter_265 (by unfold Tryz.f265; exact rfl) ?_
  simp (config := { maxSteps := 200000 }) only [go_sem, Nat.zero_add, Nat.add_zero, Nat.one_mul, Nat.mul_one, Nat.zero_mul, Nat.sub_zero, Nat.le_refl, Int.toNat_natCast, Int.ofNat_lt, Int.ofNat_le, Int.natCast_nonneg, Int.le_refl, Int.cast_ofNat_Int, Int.natCast_one, Int.reduceToNat, Int.reduceLE, Int.reduceLT, Int.reduceAdd, Int.reduceSub, Int.reduceMul, Int.reduceNeg, Int.toNat_zero, Int.reduceEq, Nat.reduceAdd, Nat.reduceSub, Nat.reduceMul, Nat.reduceLeDiff, Nat.reduceLT, Nat.reduceEqDiff, reduceCtorEq, ↓reduceIte, decide_true, decide_false]
  refine pend_intro ((key_text a ha).to ?_)
  simp (config := { maxSteps := 200000 }) only [go_sem, Nat.zero_add, Nat.add_zero, Nat.one_mul, Nat.mul_one, Nat.zero_mul, Nat.sub_zero, Nat.le_refl, Int.toNat_natCast, Int.ofNat_lt, Int.ofNat_le, Int.natCast_nonneg, Int.le_refl, Int.cast_ofNat_Int, Int.natCast_one, Int.reduceToNat, Int.reduceLE, Int.reduceLT, Int.reduceAdd, Int.reduceSub, Int.reduceMul, Int.reduceNeg, Int.toNat_zero, Int.reduceEq, Nat.reduceAdd, Nat.reduceSub, Nat.reduceMul, Nat.reduceLeDiff, Nat.reduceLT, Nat.reduceEqDiff, reduceCtorEq, ↓reduceIte, decide_true, decide_false]
  refine pend_intro ((key_text b hb).to ?_)
  simp (config := { maxSteps := 200000 }) only [go_sem, Nat.zero_add, Nat.add_zero, Nat.one_mul, Nat.mul_one, Nat.zero_mul, Nat.sub_zero, Nat.le_refl, Int.toNat_natCast, Int.ofNat_lt, Int.ofNat_le, Int.natCast_nonneg, Int.le_refl, Int.cast_ofNat_Int, Int.natCast_one, Int.reduceToNat, Int.reduceLE, Int.reduceLT, Int.reduceAdd, Int.reduceSub, Int.reduceMul, Int.reduceNeg, Int.toNat_zero, Int.reduceEq, Nat.reduceAdd, Nat.reduceSub, Nat.reduceMul, Nat.reduceLeDiff, Nat.reduceLT, Nat.reduceEqDiff, reduceCtorEq, ↓reduceIte, decide_true, decide_false]
  refine pend_intro ((strings_compare a b).to ?_)
  simp (config := { maxSteps := 200000 }) only [go_sem, Nat.zero_add, Nat.add_zero, Nat.one_mul, Nat.mul_one, Nat.zero_mul, Nat.sub_zero, Nat.le_refl, Int.toNat_natCast, Int.ofNat_lt, Int.ofNat_le, Int.natCast_nonneg, Int.le_refl, Int.cast_ofNat_Int, Int.natCast_one, Int.reduceToNat, Int.reduceLE, Int.reduceLT, Int.reduceAdd, Int.reduceSub, Int.reduceMul, Int.reduceNeg, Int.toNat_zero, Int.reduceEq, Nat.reduceAdd, Nat.reduceSub, Nat.reduceMul, Nat.reduceLeDiff, Nat.reduceLT, Nat.reduceEqDiff, reduceCtorEq, ↓reduceIte, decide_true, decide_false]
  first | exact Ext.app _ _ | exact ⟨by omega, by omega, Ext.app _ _⟩
theorem tdivN (a b : Nat) : (a : Int).tdiv (b : Int) = ((a / b : Nat) : Int) := rfl
theorem tmodN (a b : Nat) : (a : Int).tmod (b : Int) = ((a % b : Nat) : Int) := rfl
end
set_option maxRecDepth 20000
set_option linter.unusedSimpArgs false
attribute [local irreducible] hvc hops hop hplan hdrawP hval1 hopD HLoop
theorem gen_key (v : Int) : ∃ k : Bs, okK k ∧ ∀ T : Toks, @Pure T Tryz.prog 29 [.int .i64 v] (.agg (keyL k)) := by
  obtain ⟨n, hn⟩ : ∃ n : Nat, v % 1099511627776 = n := ⟨(v % 1099511627776).toNat, by omega⟩
  have hb : n < 1099511627776 := by omega
  have h8 : n % 8 = 0 ∨ n % 8 = 1 ∨ n % 8 = 2 ∨ n % 8 = 3 ∨ n % 8 = 4 ∨ n % 8 = 5 ∨ n % 8 = 6 ∨ n % 8 = 7 := by omega
  have ht : (n : Int).tmod 8 = ((n % 8 : Nat) : Int) := by rw [Int.tmod_eq_emod_of_nonneg (by omega)]; omega
  rcases h8 with h | h | h | h | h | h | h | h
  · refine ⟨([UInt8.ofNat (97 + n / 8 % 6)] : Bs), by simp [okK], fun T => ?_⟩
    letI := T
    have hp := place_ v 1099511627776 (by omega) (by omega)
    rw [hn] at hp
    refine Pure.of_ext (keyL_sc' _ _) fun PS => ?_
    refine enter_29 (by unfold Tryz.f29; exact rfl) ?_
    simp (config := { maxSteps := 200000 }) only [go_sem, Nat.zero_add, Nat.add_zero, Nat.one_mul, Nat.mul_one, Nat.zero_mul, Nat.sub_zero, Nat.le_refl, Int.toNat_natCast, Int.ofNat_lt, Int.ofNat_le, Int.natCast_nonneg, Int.le_refl, Int.cast_ofNat_Int, Int.natCast_one, Int.reduceToNat, Int.reduceLE, Int.reduceLT, Int.reduceAdd, Int.reduceSub, Int.reduceMul, Int.reduceNeg, Int.toNat_zero, Int.reduceEq, Nat.reduceAdd, Nat.reduceSub, Nat.reduceMul, Nat.reduceLeDiff, Nat.reduceLT, Nat.reduceEqDiff, reduceCtorEq, ↓reduceIte, decide_true, decide_false]
    refine pend_intro (hp.call ?_)
    rw [h] at ht
    have d8 : (n : Int).tdiv 8 = ((n / 8 : Nat) : Int) := rfl
    have d24 : (n : Int).tdiv 24 = ((n / 24 : Nat) : Int) := rfl
    have d32 : (n : Int).tdiv 32 = ((n / 32 : Nat) : Int) := rfl
    have d40 : (n : Int).tdiv 40 = ((n / 40 : Nat) : Int) := rfl
    have d2048 : (n : Int).tdiv 2048 = ((n / 2048 : Nat) : Int) := rfl
    have d8192 : (n : Int).tdiv 8192 = ((n / 8192 : Nat) : Int) := rfl
    have d32768 : (n : Int).tdiv 32768 = ((n / 32768 : Nat) : Int) := rfl
    have d524288 : (n : Int).tdiv 524288 = ((n / 524288 : Nat) : Int) := rfl
    have m3 : ∀ x : Nat, (x : Int).tmod 3 = ((x % 3 : Nat) : Int) := fun _ => rfl
    have m4 : ∀ x : Nat, (x : Int).tmod 4 = ((x % 4 : Nat) : Int) := fun _ => rfl
    have m5 : ∀ x : Nat, (x : Int).tmod 5 = ((x % 5 : Nat) : Int) := fun _ => rfl
    have m6 : ∀ x : Nat, (x : Int).tmod 6 = ((x % 6 : Nat) : Int) := fun _ => rfl
    have m9 : ∀ x : Nat, (x : Int).tmod 9 = ((x % 9 : Nat) : Int) := fun _ => rfl
    have m256 : ∀ x : Nat, (x : Int).tmod 256 = ((x % 256 : Nat) : Int) := fun _ => rfl
    have a97 : ∀ x : Nat, 97 + (x : Int) = ((97 + x : Nat) : Int) := fun _ => by omega
    have a98 : ∀ x : Nat, 98 + (x : Int) = ((98 + x : Nat) : Int) := fun _ => by omega
    have a48 : ∀ x : Nat, 48 + (x : Int) = ((48 + x : Nat) : Int) := fun _ => by omega
    have hw : ∀ x : Nat, IntKind.u8.wrap (x : Int) = (UInt8.ofNat x).toNat := fun x => by
      have := u8_of_nat x
      exact this.symm
    have hrow : [[HV.int .u8 (UInt8.ofNat (97 + n / 8 % 6)).toNat]] = bytesRows ([UInt8.ofNat (97 + n / 8 % 6)] : Bs) := rfl
    simp (config := { maxSteps := 200000 }) only [go_sem, Nat.zero_add, Nat.add_zero, Nat.one_mul, Nat.mul_one, Nat.zero_mul, Nat.sub_zero, Nat.le_refl, Int.toNat_natCast, Int.ofNat_lt, Int.ofNat_le, Int.natCast_nonneg, Int.le_refl, Int.cast_ofNat_Int, Int.natCast_one, Int.reduceToNat, Int.reduceLE, Int.reduceLT, Int.reduceAdd, Int.reduceSub, Int.reduceMul, Int.reduceNeg, Int.toNat_zero, Int.reduceEq, Nat.reduceAdd, Nat.reduceSub, Nat.reduceMul, Nat.reduceLeDiff, Nat.reduceLT, Nat.reduceEqDiff, reduceCtorEq, ↓reduceIte, decide_true, decide_false, ht, d8, d24, d32, d40, d2048, d8192, d32768, d524288, m3, m4, m5, m6, m9, m256, a97, a98, a48, hw, hrow]
    repeat (refine ⟨by omega, ?_⟩)
    refine pend_intro ((rkey_of ([UInt8.ofNat (97 + n / 8 % 6)] : Bs) (by simp)).call ?_)
    simp (config := { maxSteps := 200000 }) only [go_sem, Nat.zero_add, Nat.add_zero, Nat.one_mul, Nat.mul_one, Nat.zero_mul, Nat.sub_zero, Nat.le_refl, Int.toNat_natCast, Int.ofNat_lt, Int.ofNat_le, Int.natCast_nonneg, Int.le_refl, Int.cast_ofNat_Int, Int.natCast_one, Int.reduceToNat, Int.reduceLE, Int.reduceLT, Int.reduceAdd, Int.reduceSub, Int.reduceMul, Int.reduceNeg, Int.toNat_zero, Int.reduceEq, Nat.reduceAdd, Nat.reduceSub, Nat.reduceMul, Nat.reduceLeDiff, Nat.reduceLT, Nat.reduceEqDiff, reduceCtorEq, ↓reduceIte, decide_true, decide_false]
    first | exact Ext.app _ _ | exact ⟨by omega, by omega, Ext.app _ _⟩
  · refine ⟨([UInt8.ofNat (97 + n / 8 % 6)] : Bs), by simp [okK], fun T => ?_⟩
    letI := T
    have hp := place_ v 1099511627776 (by omega) (by omega)
    rw [hn] at hp
    refine Pure.of_ext (keyL_sc' _ _) fun PS => ?_
    refine enter_29 (by unfold Tryz.f29; exact rfl) ?_
    simp (config := { maxSteps := 200000 }) only [go_sem, Nat.zero_add, Nat.add_zero, Nat.one_mul, Nat.mul_one, Nat.zero_mul, Nat.sub_zero, Nat.le_refl, Int.toNat_natCast, Int.ofNat_lt, Int.ofNat_le, Int.natCast_nonneg, Int.le_refl, Int.cast_ofNat_Int, Int.natCast_one, Int.reduceToNat, Int.reduceLE, Int.reduceLT, Int.reduceAdd, Int.reduceSub, Int.reduceMul, Int.reduceNeg, Int.toNat_zero, Int.reduceEq, Nat.reduceAdd, Nat.reduceSub, Nat.reduceMul, Nat.reduceLeDiff, Nat.reduceLT, Nat.reduceEqDiff, reduceCtorEq, ↓reduceIte, decide_true, decide_false]
    refine pend_intro (hp.call ?_)
    rw [h] at ht
    have d8 : (n : Int).tdiv 8 = ((n / 8 : Nat) : Int) := rfl
    have d24 : (n : Int).tdiv 24 = ((n / 24 : Nat) : Int) := rfl
    have d32 : (n : Int).tdiv 32 = ((n / 32 : Nat) : Int) := rfl
    have d40 : (n : Int).tdiv 40 = ((n / 40 : Nat) : Int) := rfl
    have d2048 : (n : Int).tdiv 2048 = ((n / 2048 : Nat) : Int) := rfl
    have d8192 : (n : Int).tdiv 8192 = ((n / 8192 : Nat) : Int) := rfl
    have d32768 : (n : Int).tdiv 32768 = ((n / 32768 : Nat) : Int) := rfl
    have d524288 : (n : Int).tdiv 524288 = ((n / 524288 : Nat) : Int) := rfl
    have m3 : ∀ x : Nat, (x : Int).tmod 3 = ((x % 3 : Nat) : Int) := fun _ => rfl
    have m4 : ∀ x : Nat, (x : Int).tmod 4 = ((x % 4 : Nat) : Int) := fun _ => rfl
    have m5 : ∀ x : Nat, (x : Int).tmod 5 = ((x % 5 : Nat) : Int) := fun _ => rfl
    have m6 : ∀ x : Nat, (x : Int).tmod 6 = ((x % 6 : Nat) : Int) := fun _ => rfl
    have m9 : ∀ x : Nat, (x : Int).tmod 9 = ((x % 9 : Nat) : Int) := fun _ => rfl
    have m256 : ∀ x : Nat, (x : Int).tmod 256 = ((x % 256 : Nat) : Int) := fun _ => rfl
    have a97 : ∀ x : Nat, 97 + (x : Int) = ((97 + x : Nat) : Int) := fun _ => by omega
    have a98 : ∀ x : Nat, 98 + (x : Int) = ((98 + x : Nat) : Int) := fun _ => by omega
    have a48 : ∀ x : Nat, 48 + (x : Int) = ((48 + x : Nat) : Int) := fun _ => by omega
    have hw : ∀ x : Nat, IntKind.u8.wrap (x : Int) = (UInt8.ofNat x).toNat := fun x => by
      have := u8_of_nat x
      exact this.symm
    have hrow : [[HV.int .u8 (UInt8.ofNat (97 + n / 8 % 6)).toNat]] = bytesRows ([UInt8.ofNat (97 + n / 8 % 6)] : Bs) := rfl
    simp (config := { maxSteps := 200000 }) only [go_sem, Nat.zero_add, Nat.add_zero, Nat.one_mul, Nat.mul_one, Nat.zero_mul, Nat.sub_zero, Nat.le_refl, Int.toNat_natCast, Int.ofNat_lt, Int.ofNat_le, Int.natCast_nonneg, Int.le_refl, Int.cast_ofNat_Int, Int.natCast_one, Int.reduceToNat, Int.reduceLE, Int.reduceLT, Int.reduceAdd, Int.reduceSub, Int.reduceMul, Int.reduceNeg, Int.toNat_zero, Int.reduceEq, Nat.reduceAdd, Nat.reduceSub, Nat.reduceMul, Nat.reduceLeDiff, Nat.reduceLT, Nat.reduceEqDiff, reduceCtorEq, ↓reduceIte, decide_true, decide_false, ht, d8, d24, d32, d40, d2048, d8192, d32768, d524288, m3, m4, m5, m6, m9, m256, a97, a98, a48, hw, hrow]
    repeat (refine ⟨by omega, ?_⟩)
    refine pend_intro ((rkey_of ([UInt8.ofNat (97 + n / 8 % 6)] : Bs) (by simp)).call ?_)
    simp (config := { maxSteps := 200000 }) only [go_sem, Nat.zero_add, Nat.add_zero, Nat.one_mul, Nat.mul_one, Nat.zero_mul, Nat.sub_zero, Nat.le_refl, Int.toNat_natCast, Int.ofNat_lt, Int.ofNat_le, Int.natCast_nonneg, Int.le_refl, Int.cast_ofNat_Int, Int.natCast_one, Int.reduceToNat, Int.reduceLE, Int.reduceLT, Int.reduceAdd, Int.reduceSub, Int.reduceMul, Int.reduceNeg, Int.toNat_zero, Int.reduceEq, Nat.reduceAdd, Nat.reduceSub, Nat.reduceMul, Nat.reduceLeDiff, Nat.reduceLT, Nat.reduceEqDiff, reduceCtorEq, ↓reduceIte, decide_true, decide_false]
    first | exact Ext.app _ _ | exact ⟨by omega, by omega, Ext.app _ _⟩
  · refine ⟨([UInt8.ofNat (97 + n / 8 % 6)] : Bs), by simp [okK], fun T => ?_⟩
    letI := T
    have hp := place_ v 1099511627776 (by omega) (by omega)
    rw [hn] at hp
    refine Pure.of_ext (keyL_sc' _ _) fun PS => ?_
    refine enter_29 (by unfold Tryz.f29; exact rfl) ?_
    simp (config := { maxSteps := 200000 }) only [go_sem, Nat.zero_add, Nat.add_zero, Nat.one_mul, Nat.mul_one, Nat.zero_mul, Nat.sub_zero, Nat.le_refl, Int.toNat_natCast, Int.ofNat_lt, Int.ofNat_le, Int.natCast_nonneg, Int.le_refl, Int.cast_ofNat_Int, Int.natCast_one, Int.reduceToNat, Int.reduceLE, Int.reduceLT, Int.reduceAdd, Int.reduceSub, Int.reduceMul, Int.reduceNeg, Int.toNat_zero, Int.reduceEq, Nat.reduceAdd, Nat.reduceSub, Nat.reduceMul, Nat.reduceLeDiff, Nat.reduceLT, Nat.reduceEqDiff, reduceCtorEq, ↓reduceIte, decide_true, decide_false]
    refine pend_intro (hp.call ?_)
    rw [h] at ht
    have d8 : (n : Int).tdiv 8 = ((n / 8 : Nat) : Int) := rfl
    have d24 : (n : Int).tdiv 24 = ((n / 24 : Nat) : Int) := rfl
    have d32 : (n : Int).tdiv 32 = ((n / 32 : Nat) : Int) := rfl
    have d40 : (n : Int).tdiv 40 = ((n / 40 : Nat) : Int) := rfl
    have d2048 : (n : Int).tdiv 2048 = ((n / 2048 : Nat) : Int) := rfl
    have d8192 : (n : Int).tdiv 8192 = ((n / 8192 : Nat) : Int) := rfl
    have d32768 : (n : Int).tdiv 32768 = ((n / 32768 : Nat) : Int) := rfl
    have d524288 : (n : Int).tdiv 524288 = ((n / 524288 : Nat) : Int) := rfl
    have m3 : ∀ x : Nat, (x : Int).tmod 3 = ((x % 3 : Nat) : Int) := fun _ => rfl
    have m4 : ∀ x : Nat, (x : Int).tmod 4 = ((x % 4 : Nat) : Int) := fun _ => rfl
    have m5 : ∀ x : Nat, (x : Int).tmod 5 = ((x % 5 : Nat) : Int) := fun _ => rfl
    have m6 : ∀ x : Nat, (x : Int).tmod 6 = ((x % 6 : Nat) : Int) := fun _ => rfl
    have m9 : ∀ x : Nat, (x : Int).tmod 9 = ((x % 9 : Nat) : Int) := fun _ => rfl
    have m256 : ∀ x : Nat, (x : Int).tmod 256 = ((x % 256 : Nat) : Int) := fun _ => rfl
    have a97 : ∀ x : Nat, 97 + (x : Int) = ((97 + x : Nat) : Int) := fun _ => by omega
    have a98 : ∀ x : Nat, 98 + (x : Int) = ((98 + x : Nat) : Int) := fun _ => by omega
    have a48 : ∀ x : Nat, 48 + (x : Int) = ((48 + x : Nat) : Int) := fun _ => by omega
    have hw : ∀ x : Nat, IntKind.u8.wrap (x : Int) = (UInt8.ofNat x).toNat := fun x => by
      have := u8_of_nat x
      exact this.symm
    have hrow : [[HV.int .u8 (UInt8.ofNat (97 + n / 8 % 6)).toNat]] = bytesRows ([UInt8.ofNat (97 + n / 8 % 6)] : Bs) := rfl
    simp (config := { maxSteps := 200000 }) only [go_sem, Nat.zero_add, Nat.add_zero, Nat.one_mul, Nat.mul_one, Nat.zero_mul, Nat.sub_zero, Nat.le_refl, Int.toNat_natCast, Int.ofNat_lt, Int.ofNat_le, Int.natCast_nonneg, Int.le_refl, Int.cast_ofNat_Int, Int.natCast_one, Int.reduceToNat, Int.reduceLE, Int.reduceLT, Int.reduceAdd, Int.reduceSub, Int.reduceMul, Int.reduceNeg, Int.toNat_zero, Int.reduceEq, Nat.reduceAdd, Nat.reduceSub, Nat.reduceMul, Nat.reduceLeDiff, Nat.reduceLT, Nat.reduceEqDiff, reduceCtorEq, ↓reduceIte, decide_true, decide_false, ht, d8, d24, d32, d40, d2048, d8192, d32768, d524288, m3, m4, m5, m6, m9, m256, a97, a98, a48, hw, hrow]
    repeat (refine ⟨by omega, ?_⟩)
    refine pend_intro ((rkey_of ([UInt8.ofNat (97 + n / 8 % 6)] : Bs) (by simp)).call ?_)
    simp (config := { maxSteps := 200000 }) only [go_sem, Nat.zero_add, Nat.add_zero, Nat.one_mul, Nat.mul_one, Nat.zero_mul, Nat.sub_zero, Nat.le_refl, Int.toNat_natCast, Int.ofNat_lt, Int.ofNat_le, Int.natCast_nonneg, Int.le_refl, Int.cast_ofNat_Int, Int.natCast_one, Int.reduceToNat, Int.reduceLE, Int.reduceLT, Int.reduceAdd, Int.reduceSub, Int.reduceMul, Int.reduceNeg, Int.toNat_zero, Int.reduceEq, Nat.reduceAdd, Nat.reduceSub, Nat.reduceMul, Nat.reduceLeDiff, Nat.reduceLT, Nat.reduceEqDiff, reduceCtorEq, ↓reduceIte, decide_true, decide_false]
    first | exact Ext.app _ _ | exact ⟨by omega, by omega, Ext.app _ _⟩
  · refine ⟨([UInt8.ofNat (97 + n / 8 % 5), UInt8.ofNat (97 + n / 40 % 4)] : Bs), by simp [okK], fun T => ?_⟩
    letI := T
    have hp := place_ v 1099511627776 (by omega) (by omega)
    rw [hn] at hp
    refine Pure.of_ext (keyL_sc' _ _) fun PS => ?_
    refine enter_29 (by unfold Tryz.f29; exact rfl) ?_
    simp (config := { maxSteps := 200000 }) only [go_sem, Nat.zero_add, Nat.add_zero, Nat.one_mul, Nat.mul_one, Nat.zero_mul, Nat.sub_zero, Nat.le_refl, Int.toNat_natCast, Int.ofNat_lt, Int.ofNat_le, Int.natCast_nonneg, Int.le_refl, Int.cast_ofNat_Int, Int.natCast_one, Int.reduceToNat, Int.reduceLE, Int.reduceLT, Int.reduceAdd, Int.reduceSub, Int.reduceMul, Int.reduceNeg, Int.toNat_zero, Int.reduceEq, Nat.reduceAdd, Nat.reduceSub, Nat.reduceMul, Nat.reduceLeDiff, Nat.reduceLT, Nat.reduceEqDiff, reduceCtorEq, ↓reduceIte, decide_true, decide_false]
    refine pend_intro (hp.call ?_)
    rw [h] at ht
    have d8 : (n : Int).tdiv 8 = ((n / 8 : Nat) : Int) := rfl
    have d24 : (n : Int).tdiv 24 = ((n / 24 : Nat) : Int) := rfl
    have d32 : (n : Int).tdiv 32 = ((n / 32 : Nat) : Int) := rfl
    have d40 : (n : Int).tdiv 40 = ((n / 40 : Nat) : Int) := rfl
    have d2048 : (n : Int).tdiv 2048 = ((n / 2048 : Nat) : Int) := rfl
    have d8192 : (n : Int).tdiv 8192 = ((n / 8192 : Nat) : Int) := rfl
    have d32768 : (n : Int).tdiv 32768 = ((n / 32768 : Nat) : Int) := rfl
    have d524288 : (n : Int).tdiv 524288 = ((n / 524288 : Nat) : Int) := rfl
    have m3 : ∀ x : Nat, (x : Int).tmod 3 = ((x % 3 : Nat) : Int) := fun _ => rfl
    have m4 : ∀ x : Nat, (x : Int).tmod 4 = ((x % 4 : Nat) : Int) := fun _ => rfl
    have m5 : ∀ x : Nat, (x : Int).tmod 5 = ((x % 5 : Nat) : Int) := fun _ => rfl
    have m6 : ∀ x : Nat, (x : Int).tmod 6 = ((x % 6 : Nat) : Int) := fun _ => rfl
    have m9 : ∀ x : Nat, (x : Int).tmod 9 = ((x % 9 : Nat) : Int) := fun _ => rfl
    have m256 : ∀ x : Nat, (x : Int).tmod 256 = ((x % 256 : Nat) : Int) := fun _ => rfl
    have a97 : ∀ x : Nat, 97 + (x : Int) = ((97 + x : Nat) : Int) := fun _ => by omega
    have a98 : ∀ x : Nat, 98 + (x : Int) = ((98 + x : Nat) : Int) := fun _ => by omega
    have a48 : ∀ x : Nat, 48 + (x : Int) = ((48 + x : Nat) : Int) := fun _ => by omega
    have hw : ∀ x : Nat, IntKind.u8.wrap (x : Int) = (UInt8.ofNat x).toNat := fun x => by
      have := u8_of_nat x
      exact this.symm
    have hrow : [[HV.int .u8 (UInt8.ofNat (97 + n / 8 % 5)).toNat], [HV.int .u8 (UInt8.ofNat (97 + n / 40 % 4)).toNat]] = bytesRows ([UInt8.ofNat (97 + n / 8 % 5), UInt8.ofNat (97 + n / 40 % 4)] : Bs) := rfl
    simp (config := { maxSteps := 200000 }) only [go_sem, Nat.zero_add, Nat.add_zero, Nat.one_mul, Nat.mul_one, Nat.zero_mul, Nat.sub_zero, Nat.le_refl, Int.toNat_natCast, Int.ofNat_lt, Int.ofNat_le, Int.natCast_nonneg, Int.le_refl, Int.cast_ofNat_Int, Int.natCast_one, Int.reduceToNat, Int.reduceLE, Int.reduceLT, Int.reduceAdd, Int.reduceSub, Int.reduceMul, Int.reduceNeg, Int.toNat_zero, Int.reduceEq, Nat.reduceAdd, Nat.reduceSub, Nat.reduceMul, Nat.reduceLeDiff, Nat.reduceLT, Nat.reduceEqDiff, reduceCtorEq, ↓reduceIte, decide_true, decide_false, ht, d8, d24, d32, d40, d2048, d8192, d32768, d524288, m3, m4, m5, m6, m9, m256, a97, a98, a48, hw, hrow]
    repeat (refine ⟨by omega, ?_⟩)
    refine pend_intro ((rkey_of ([UInt8.ofNat (97 + n / 8 % 5), UInt8.ofNat (97 + n / 40 % 4)] : Bs) (by simp)).call ?_)
    simp (config := { maxSteps := 200000 }) only [go_sem, Nat.zero_add, Nat.add_zero, Nat.one_mul, Nat.mul_one, Nat.zero_mul, Nat.sub_zero, Nat.le_refl, Int.toNat_natCast, Int.ofNat_lt, Int.ofNat_le, Int.natCast_nonneg, Int.le_refl, Int.cast_ofNat_Int, Int.natCast_one, Int.reduceToNat, Int.reduceLE, Int.reduceLT, Int.reduceAdd, Int.reduceSub, Int.reduceMul, Int.reduceNeg, Int.toNat_zero, Int.reduceEq, Nat.reduceAdd, Nat.reduceSub, Nat.reduceMul, Nat.reduceLeDiff, Nat.reduceLT, Nat.reduceEqDiff, reduceCtorEq, ↓reduceIte, decide_true, decide_false]
    first | exact Ext.app _ _ | exact ⟨by omega, by omega, Ext.app _ _⟩
  · refine ⟨([UInt8.ofNat (97 + n / 8 % 5), UInt8.ofNat (97 + n / 40 % 4)] : Bs), by simp [okK], fun T => ?_⟩
    letI := T
    have hp := place_ v 1099511627776 (by omega) (by omega)
    rw [hn] at hp
    refine Pure.of_ext (keyL_sc' _ _) fun PS => ?_
    refine enter_29 (by unfold Tryz.f29; exact rfl) ?_
    simp (config := { maxSteps := 200000 }) only [go_sem, Nat.zero_add, Nat.add_zero, Nat.one_mul, Nat.mul_one, Nat.zero_mul, Nat.sub_zero, Nat.le_refl, Int.toNat_natCast, Int.ofNat_lt, Int.ofNat_le, Int.natCast_nonneg, Int.le_refl, Int.cast_ofNat_Int, Int.natCast_one, Int.reduceToNat, Int.reduceLE, Int.reduceLT, Int.reduceAdd, Int.reduceSub, Int.reduceMul, Int.reduceNeg, Int.toNat_zero, Int.reduceEq, Nat.reduceAdd, Nat.reduceSub, Nat.reduceMul, Nat.reduceLeDiff, Nat.reduceLT, Nat.reduceEqDiff, reduceCtorEq, ↓reduceIte, decide_true, decide_false]
    refine pend_intro (hp.call ?_)
    rw [h] at ht
    have d8 : (n : Int).tdiv 8 = ((n / 8 : Nat) : Int) := rfl
    have d24 : (n : Int).tdiv 24 = ((n / 24 : Nat) : Int) := rfl
    have d32 : (n : Int).tdiv 32 = ((n / 32 : Nat) : Int) := rfl
    have d40 : (n : Int).tdiv 40 = ((n / 40 : Nat) : Int) := rfl
    have d2048 : (n : Int).tdiv 2048 = ((n / 2048 : Nat) : Int) := rfl
    have d8192 : (n : Int).tdiv 8192 = ((n / 8192 : Nat) : Int) := rfl
    have d32768 : (n : Int).tdiv 32768 = ((n / 32768 : Nat) : Int) := rfl
    have d524288 : (n : Int).tdiv 524288 = ((n / 524288 : Nat) : Int) := rfl
    have m3 : ∀ x : Nat, (x : Int).tmod 3 = ((x % 3 : Nat) : Int) := fun _ => rfl
    have m4 : ∀ x : Nat, (x : Int).tmod 4 = ((x % 4 : Nat) : Int) := fun _ => rfl
    have m5 : ∀ x : Nat, (x : Int).tmod 5 = ((x % 5 : Nat) : Int) := fun _ => rfl
    have m6 : ∀ x : Nat, (x : Int).tmod 6 = ((x % 6 : Nat) : Int) := fun _ => rfl
    have m9 : ∀ x : Nat, (x : Int).tmod 9 = ((x % 9 : Nat) : Int) := fun _ => rfl
    have m256 : ∀ x : Nat, (x : Int).tmod 256 = ((x % 256 : Nat) : Int) := fun _ => rfl
    have a97 : ∀ x : Nat, 97 + (x : Int) = ((97 + x : Nat) : Int) := fun _ => by omega
    have a98 : ∀ x : Nat, 98 + (x : Int) = ((98 + x : Nat) : Int) := fun _ => by omega
    have a48 : ∀ x : Nat, 48 + (x : Int) = ((48 + x : Nat) : Int) := fun _ => by omega
    have hw : ∀ x : Nat, IntKind.u8.wrap (x : Int) = (UInt8.ofNat x).toNat := fun x => by
      have := u8_of_nat x
      exact this.symm
    have hrow : [[HV.int .u8 (UInt8.ofNat (97 + n / 8 % 5)).toNat], [HV.int .u8 (UInt8.ofNat (97 + n / 40 % 4)).toNat]] = bytesRows ([UInt8.ofNat (97 + n / 8 % 5), UInt8.ofNat (97 + n / 40 % 4)] : Bs) := rfl
    simp (config := { maxSteps := 200000 }) only [go_sem, Nat.zero_add, Nat.add_zero, Nat.one_mul, Nat.mul_one, Nat.zero_mul, Nat.sub_zero, Nat.le_refl, Int.toNat_natCast, Int.ofNat_lt, Int.ofNat_le, Int.natCast_nonneg, Int.le_refl, Int.cast_ofNat_Int, Int.natCast_one, Int.reduceToNat, Int.reduceLE, Int.reduceLT, Int.reduceAdd, Int.reduceSub, Int.reduceMul, Int.reduceNeg, Int.toNat_zero, Int.reduceEq, Nat.reduceAdd, Nat.reduceSub, Nat.reduceMul, Nat.reduceLeDiff, Nat.reduceLT, Nat.reduceEqDiff, reduceCtorEq, ↓reduceIte, decide_true, decide_false, ht, d8, d24, d32, d40, d2048, d8192, d32768, d524288, m3, m4, m5, m6, m9, m256, a97, a98, a48, hw, hrow]
    repeat (refine ⟨by omega, ?_⟩)
    refine pend_intro ((rkey_of ([UInt8.ofNat (97 + n / 8 % 5), UInt8.ofNat (97 + n / 40 % 4)] : Bs) (by simp)).call ?_)
    simp (config := { maxSteps := 200000 }) only [go_sem, Nat.zero_add, Nat.add_zero, Nat.one_mul, Nat.mul_one, Nat.zero_mul, Nat.sub_zero, Nat.le_refl, Int.toNat_natCast, Int.ofNat_lt, Int.ofNat_le, Int.natCast_nonneg, Int.le_refl, Int.cast_ofNat_Int, Int.natCast_one, Int.reduceToNat, Int.reduceLE, Int.reduceLT, Int.reduceAdd, Int.reduceSub, Int.reduceMul, Int.reduceNeg, Int.toNat_zero, Int.reduceEq, Nat.reduceAdd, Nat.reduceSub, Nat.reduceMul, Nat.reduceLeDiff, Nat.reduceLT, Nat.reduceEqDiff, reduceCtorEq, ↓reduceIte, decide_true, decide_false]
    first | exact Ext.app _ _ | exact ⟨by omega, by omega, Ext.app _ _⟩
  · refine ⟨([UInt8.ofNat (97 + n / 8 % 4), 0, UInt8.ofNat (n / 32 % 256), UInt8.ofNat (n / 8192 % 4), 255, 120, 121, UInt8.ofNat (97 + n / 32768 % 3)] : Bs), by simp [okK], fun T => ?_⟩
    letI := T
    have hp := place_ v 1099511627776 (by omega) (by omega)
    rw [hn] at hp
    refine Pure.of_ext (keyL_sc' _ _) fun PS => ?_
    refine enter_29 (by unfold Tryz.f29; exact rfl) ?_
    simp (config := { maxSteps := 200000 }) only [go_sem, Nat.zero_add, Nat.add_zero, Nat.one_mul, Nat.mul_one, Nat.zero_mul, Nat.sub_zero, Nat.le_refl, Int.toNat_natCast, Int.ofNat_lt, Int.ofNat_le, Int.natCast_nonneg, Int.le_refl, Int.cast_ofNat_Int, Int.natCast_one, Int.reduceToNat, Int.reduceLE, Int.reduceLT, Int.reduceAdd, Int.reduceSub, Int.reduceMul, Int.reduceNeg, Int.toNat_zero, Int.reduceEq, Nat.reduceAdd, Nat.reduceSub, Nat.reduceMul, Nat.reduceLeDiff, Nat.reduceLT, Nat.reduceEqDiff, reduceCtorEq, ↓reduceIte, decide_true, decide_false]
    refine pend_intro (hp.call ?_)
    rw [h] at ht
    have d8 : (n : Int).tdiv 8 = ((n / 8 : Nat) : Int) := rfl
    have d24 : (n : Int).tdiv 24 = ((n / 24 : Nat) : Int) := rfl
    have d32 : (n : Int).tdiv 32 = ((n / 32 : Nat) : Int) := rfl
    have d40 : (n : Int).tdiv 40 = ((n / 40 : Nat) : Int) := rfl
    have d2048 : (n : Int).tdiv 2048 = ((n / 2048 : Nat) : Int) := rfl
    have d8192 : (n : Int).tdiv 8192 = ((n / 8192 : Nat) : Int) := rfl
    have d32768 : (n : Int).tdiv 32768 = ((n / 32768 : Nat) : Int) := rfl
    have d524288 : (n : Int).tdiv 524288 = ((n / 524288 : Nat) : Int) := rfl
    have m3 : ∀ x : Nat, (x : Int).tmod 3 = ((x % 3 : Nat) : Int) := fun _ => rfl
    have m4 : ∀ x : Nat, (x : Int).tmod 4 = ((x % 4 : Nat) : Int) := fun _ => rfl
    have m5 : ∀ x : Nat, (x : Int).tmod 5 = ((x % 5 : Nat) : Int) := fun _ => rfl
    have m6 : ∀ x : Nat, (x : Int).tmod 6 = ((x % 6 : Nat) : Int) := fun _ => rfl
    have m9 : ∀ x : Nat, (x : Int).tmod 9 = ((x % 9 : Nat) : Int) := fun _ => rfl
    have m256 : ∀ x : Nat, (x : Int).tmod 256 = ((x % 256 : Nat) : Int) := fun _ => rfl
    have a97 : ∀ x : Nat, 97 + (x : Int) = ((97 + x : Nat) : Int) := fun _ => by omega
    have a98 : ∀ x : Nat, 98 + (x : Int) = ((98 + x : Nat) : Int) := fun _ => by omega
    have a48 : ∀ x : Nat, 48 + (x : Int) = ((48 + x : Nat) : Int) := fun _ => by omega
    have hw : ∀ x : Nat, IntKind.u8.wrap (x : Int) = (UInt8.ofNat x).toNat := fun x => by
      have := u8_of_nat x
      exact this.symm
    have hrow : [[HV.int .u8 (UInt8.ofNat (97 + n / 8 % 4)).toNat], [HV.int .u8 0], [HV.int .u8 (UInt8.ofNat (n / 32 % 256)).toNat], [HV.int .u8 (UInt8.ofNat (n / 8192 % 4)).toNat], [HV.int .u8 255], [HV.int .u8 120], [HV.int .u8 121], [HV.int .u8 (UInt8.ofNat (97 + n / 32768 % 3)).toNat]] = bytesRows ([UInt8.ofNat (97 + n / 8 % 4), 0, UInt8.ofNat (n / 32 % 256), UInt8.ofNat (n / 8192 % 4), 255, 120, 121, UInt8.ofNat (97 + n / 32768 % 3)] : Bs) := rfl
    simp (config := { maxSteps := 200000 }) only [go_sem, Nat.zero_add, Nat.add_zero, Nat.one_mul, Nat.mul_one, Nat.zero_mul, Nat.sub_zero, Nat.le_refl, Int.toNat_natCast, Int.ofNat_lt, Int.ofNat_le, Int.natCast_nonneg, Int.le_refl, Int.cast_ofNat_Int, Int.natCast_one, Int.reduceToNat, Int.reduceLE, Int.reduceLT, Int.reduceAdd, Int.reduceSub, Int.reduceMul, Int.reduceNeg, Int.toNat_zero, Int.reduceEq, Nat.reduceAdd, Nat.reduceSub, Nat.reduceMul, Nat.reduceLeDiff, Nat.reduceLT, Nat.reduceEqDiff, reduceCtorEq, ↓reduceIte, decide_true, decide_false, ht, d8, d24, d32, d40, d2048, d8192, d32768, d524288, m3, m4, m5, m6, m9, m256, a97, a98, a48, hw, hrow]
    repeat (refine ⟨by omega, ?_⟩)
    refine pend_intro ((rkey_of ([UInt8.ofNat (97 + n / 8 % 4), 0, UInt8.ofNat (n / 32 % 256), UInt8.ofNat (n / 8192 % 4), 255, 120, 121, UInt8.ofNat (97 + n / 32768 % 3)] : Bs) (by simp)).call ?_)
    simp (config := { maxSteps := 200000 }) only [go_sem, Nat.zero_add, Nat.add_zero, Nat.one_mul, Nat.mul_one, Nat.zero_mul, Nat.sub_zero, Nat.le_refl, Int.toNat_natCast, Int.ofNat_lt, Int.ofNat_le, Int.natCast_nonneg, Int.le_refl, Int.cast_ofNat_Int, Int.natCast_one, Int.reduceToNat, Int.reduceLE, Int.reduceLT, Int.reduceAdd, Int.reduceSub, Int.reduceMul, Int.reduceNeg, Int.toNat_zero, Int.reduceEq, Nat.reduceAdd, Nat.reduceSub, Nat.reduceMul, Nat.reduceLeDiff, Nat.reduceLT, Nat.reduceEqDiff, reduceCtorEq, ↓reduceIte, decide_true, decide_false]
    first | exact Ext.app _ _ | exact ⟨by omega, by omega, Ext.app _ _⟩
  · refine ⟨([UInt8.ofNat (98 + n / 8 % 3), 108, 111, 110, 103, 101, 114, UInt8.ofNat (48 + n / 24 % 9)] : Bs), by simp [okK], fun T => ?_⟩
    letI := T
    have hp := place_ v 1099511627776 (by omega) (by omega)
    rw [hn] at hp
    refine Pure.of_ext (keyL_sc' _ _) fun PS => ?_
    refine enter_29 (by unfold Tryz.f29; exact rfl) ?_
    simp (config := { maxSteps := 200000 }) only [go_sem, Nat.zero_add, Nat.add_zero, Nat.one_mul, Nat.mul_one, Nat.zero_mul, Nat.sub_zero, Nat.le_refl, Int.toNat_natCast, Int.ofNat_lt, Int.ofNat_le, Int.natCast_nonneg, Int.le_refl, Int.cast_ofNat_Int, Int.natCast_one, Int.reduceToNat, Int.reduceLE, Int.reduceLT, Int.reduceAdd, Int.reduceSub, Int.reduceMul, Int.reduceNeg, Int.toNat_zero, Int.reduceEq, Nat.reduceAdd, Nat.reduceSub, Nat.reduceMul, Nat.reduceLeDiff, Nat.reduceLT, Nat.reduceEqDiff, reduceCtorEq, ↓reduceIte, decide_true, decide_false]
    refine pend_intro (hp.call ?_)
    rw [h] at ht
    have d8 : (n : Int).tdiv 8 = ((n / 8 : Nat) : Int) := rfl
    have d24 : (n : Int).tdiv 24 = ((n / 24 : Nat) : Int) := rfl
    have d32 : (n : Int).tdiv 32 = ((n / 32 : Nat) : Int) := rfl
    have d40 : (n : Int).tdiv 40 = ((n / 40 : Nat) : Int) := rfl
    have d2048 : (n : Int).tdiv 2048 = ((n / 2048 : Nat) : Int) := rfl
    have d8192 : (n : Int).tdiv 8192 = ((n / 8192 : Nat) : Int) := rfl
    have d32768 : (n : Int).tdiv 32768 = ((n / 32768 : Nat) : Int) := rfl
    have d524288 : (n : Int).tdiv 524288 = ((n / 524288 : Nat) : Int) := rfl
    have m3 : ∀ x : Nat, (x : Int).tmod 3 = ((x % 3 : Nat) : Int) := fun _ => rfl
    have m4 : ∀ x : Nat, (x : Int).tmod 4 = ((x % 4 : Nat) : Int) := fun _ => rfl
    have m5 : ∀ x : Nat, (x : Int).tmod 5 = ((x % 5 : Nat) : Int) := fun _ => rfl
    have m6 : ∀ x : Nat, (x : Int).tmod 6 = ((x % 6 : Nat) : Int) := fun _ => rfl
    have m9 : ∀ x : Nat, (x : Int).tmod 9 = ((x % 9 : Nat) : Int) := fun _ => rfl
    have m256 : ∀ x : Nat, (x : Int).tmod 256 = ((x % 256 : Nat) : Int) := fun _ => rfl
    have a97 : ∀ x : Nat, 97 + (x : Int) = ((97 + x : Nat) : Int) := fun _ => by omega
    have a98 : ∀ x : Nat, 98 + (x : Int) = ((98 + x : Nat) : Int) := fun _ => by omega
    have a48 : ∀ x : Nat, 48 + (x : Int) = ((48 + x : Nat) : Int) := fun _ => by omega
    have hw : ∀ x : Nat, IntKind.u8.wrap (x : Int) = (UInt8.ofNat x).toNat := fun x => by
      have := u8_of_nat x
      exact this.symm
    have hrow : [[HV.int .u8 (UInt8.ofNat (98 + n / 8 % 3)).toNat], [HV.int .u8 108], [HV.int .u8 111], [HV.int .u8 110], [HV.int .u8 103], [HV.int .u8 101], [HV.int .u8 114], [HV.int .u8 (UInt8.ofNat (48 + n / 24 % 9)).toNat]] = bytesRows ([UInt8.ofNat (98 + n / 8 % 3), 108, 111, 110, 103, 101, 114, UInt8.ofNat (48 + n / 24 % 9)] : Bs) := rfl
    simp (config := { maxSteps := 200000 }) only [go_sem, Nat.zero_add, Nat.add_zero, Nat.one_mul, Nat.mul_one, Nat.zero_mul, Nat.sub_zero, Nat.le_refl, Int.toNat_natCast, Int.ofNat_lt, Int.ofNat_le, Int.natCast_nonneg, Int.le_refl, Int.cast_ofNat_Int, Int.natCast_one, Int.reduceToNat, Int.reduceLE, Int.reduceLT, Int.reduceAdd, Int.reduceSub, Int.reduceMul, Int.reduceNeg, Int.toNat_zero, Int.reduceEq, Nat.reduceAdd, Nat.reduceSub, Nat.reduceMul, Nat.reduceLeDiff, Nat.reduceLT, Nat.reduceEqDiff, reduceCtorEq, ↓reduceIte, decide_true, decide_false, ht, d8, d24, d32, d40, d2048, d8192, d32768, d524288, m3, m4, m5, m6, m9, m256, a97, a98, a48, hw, hrow]
    repeat (refine ⟨by omega, ?_⟩)
    refine pend_intro ((rkey_of ([UInt8.ofNat (98 + n / 8 % 3), 108, 111, 110, 103, 101, 114, UInt8.ofNat (48 + n / 24 % 9)] : Bs) (by simp)).call ?_)
    simp (config := { maxSteps := 200000 }) only [go_sem, Nat.zero_add, Nat.add_zero, Nat.one_mul, Nat.mul_one, Nat.zero_mul, Nat.sub_zero, Nat.le_refl, Int.toNat_natCast, Int.ofNat_lt, Int.ofNat_le, Int.natCast_nonneg, Int.le_refl, Int.cast_ofNat_Int, Int.natCast_one, Int.reduceToNat, Int.reduceLE, Int.reduceLT, Int.reduceAdd, Int.reduceSub, Int.reduceMul, Int.reduceNeg, Int.toNat_zero, Int.reduceEq, Nat.reduceAdd, Nat.reduceSub, Nat.reduceMul, Nat.reduceLeDiff, Nat.reduceLT, Nat.reduceEqDiff, reduceCtorEq, ↓reduceIte, decide_true, decide_false]
    first | exact Ext.app _ _ | exact ⟨by omega, by omega, Ext.app _ _⟩
  · refine ⟨List.take (n / 524288 % 3) ([UInt8.ofNat (n / 8 % 256), UInt8.ofNat (n / 2048 % 256)] : Bs), by simp [okK]; omega, fun T => ?_⟩
    letI := T
    have hp := place_ v 1099511627776 (by omega) (by omega)
    rw [hn] at hp
    refine Pure.of_ext (keyL_sc' _ _) fun PS => ?_
    refine enter_29 (by unfold Tryz.f29; exact rfl) ?_
    simp (config := { maxSteps := 200000 }) only [go_sem, Nat.zero_add, Nat.add_zero, Nat.one_mul, Nat.mul_one, Nat.zero_mul, Nat.sub_zero, Nat.le_refl, Int.toNat_natCast, Int.ofNat_lt, Int.ofNat_le, Int.natCast_nonneg, Int.le_refl, Int.cast_ofNat_Int, Int.natCast_one, Int.reduceToNat, Int.reduceLE, Int.reduceLT, Int.reduceAdd, Int.reduceSub, Int.reduceMul, Int.reduceNeg, Int.toNat_zero, Int.reduceEq, Nat.reduceAdd, Nat.reduceSub, Nat.reduceMul, Nat.reduceLeDiff, Nat.reduceLT, Nat.reduceEqDiff, reduceCtorEq, ↓reduceIte, decide_true, decide_false]
    refine pend_intro (hp.call ?_)
    rw [h] at ht
    have d8 : (n : Int).tdiv 8 = ((n / 8 : Nat) : Int) := rfl
    have d24 : (n : Int).tdiv 24 = ((n / 24 : Nat) : Int) := rfl
    have d32 : (n : Int).tdiv 32 = ((n / 32 : Nat) : Int) := rfl
    have d40 : (n : Int).tdiv 40 = ((n / 40 : Nat) : Int) := rfl
    have d2048 : (n : Int).tdiv 2048 = ((n / 2048 : Nat) : Int) := rfl
    have d8192 : (n : Int).tdiv 8192 = ((n / 8192 : Nat) : Int) := rfl
    have d32768 : (n : Int).tdiv 32768 = ((n / 32768 : Nat) : Int) := rfl
    have d524288 : (n : Int).tdiv 524288 = ((n / 524288 : Nat) : Int) := rfl
    have m3 : ∀ x : Nat, (x : Int).tmod 3 = ((x % 3 : Nat) : Int) := fun _ => rfl
    have m4 : ∀ x : Nat, (x : Int).tmod 4 = ((x % 4 : Nat) : Int) := fun _ => rfl
    have m5 : ∀ x : Nat, (x : Int).tmod 5 = ((x % 5 : Nat) : Int) := fun _ => rfl
    have m6 : ∀ x : Nat, (x : Int).tmod 6 = ((x % 6 : Nat) : Int) := fun _ => rfl
    have m9 : ∀ x : Nat, (x : Int).tmod 9 = ((x % 9 : Nat) : Int) := fun _ => rfl
    have m256 : ∀ x : Nat, (x : Int).tmod 256 = ((x % 256 : Nat) : Int) := fun _ => rfl
    have a97 : ∀ x : Nat, 97 + (x : Int) = ((97 + x : Nat) : Int) := fun _ => by omega
    have a98 : ∀ x : Nat, 98 + (x : Int) = ((98 + x : Nat) : Int) := fun _ => by omega
    have a48 : ∀ x : Nat, 48 + (x : Int) = ((48 + x : Nat) : Int) := fun _ => by omega
    have hw : ∀ x : Nat, IntKind.u8.wrap (x : Int) = (UInt8.ofNat x).toNat := fun x => by
      have := u8_of_nat x
      exact this.symm
    have hrow : [[HV.int .u8 (UInt8.ofNat (n / 8 % 256)).toNat], [HV.int .u8 (UInt8.ofNat (n / 2048 % 256)).toNat]] = bytesRows ([UInt8.ofNat (n / 8 % 256), UInt8.ofNat (n / 2048 % 256)] : Bs) := rfl
    simp (config := { maxSteps := 200000 }) only [go_sem, Nat.zero_add, Nat.add_zero, Nat.one_mul, Nat.mul_one, Nat.zero_mul, Nat.sub_zero, Nat.le_refl, Int.toNat_natCast, Int.ofNat_lt, Int.ofNat_le, Int.natCast_nonneg, Int.le_refl, Int.cast_ofNat_Int, Int.natCast_one, Int.reduceToNat, Int.reduceLE, Int.reduceLT, Int.reduceAdd, Int.reduceSub, Int.reduceMul, Int.reduceNeg, Int.toNat_zero, Int.reduceEq, Nat.reduceAdd, Nat.reduceSub, Nat.reduceMul, Nat.reduceLeDiff, Nat.reduceLT, Nat.reduceEqDiff, reduceCtorEq, ↓reduceIte, decide_true, decide_false, ht, d8, d24, d32, d40, d2048, d8192, d32768, d524288, m3, m4, m5, m6, m9, m256, a97, a98, a48, hw, hrow]
    repeat (refine ⟨by omega, ?_⟩)
    refine pend_intro ((rkey_of (List.take (n / 524288 % 3) ([UInt8.ofNat (n / 8 % 256), UInt8.ofNat (n / 2048 % 256)] : Bs)) (by simp; omega)).call ?_)
    simp (config := { maxSteps := 200000 }) only [go_sem, Nat.zero_add, Nat.add_zero, Nat.one_mul, Nat.mul_one, Nat.zero_mul, Nat.sub_zero, Nat.le_refl, Int.toNat_natCast, Int.ofNat_lt, Int.ofNat_le, Int.natCast_nonneg, Int.le_refl, Int.cast_ofNat_Int, Int.natCast_one, Int.reduceToNat, Int.reduceLE, Int.reduceLT, Int.reduceAdd, Int.reduceSub, Int.reduceMul, Int.reduceNeg, Int.toNat_zero, Int.reduceEq, Nat.reduceAdd, Nat.reduceSub, Nat.reduceMul, Nat.reduceLeDiff, Nat.reduceLT, Nat.reduceEqDiff, reduceCtorEq, ↓reduceIte, decide_true, decide_false]
    first | exact Ext.app _ _ | exact ⟨by omega, by omega, Ext.app _ _⟩
end Go.Proofs.YtcimbpdkejgnlaaGreat
