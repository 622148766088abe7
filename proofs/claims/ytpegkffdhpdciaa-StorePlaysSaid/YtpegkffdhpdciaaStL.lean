import Derived.Test.YtpegkffdhpdciaaStK
namespace Go.Proofs.Ytpegkffdhpdciaa
open Go Go.Eng
set_option maxRecDepth 20000
set_option linter.unusedSimpArgs false
attribute [local irreducible] hvc hops hop hplan hval1 hopD HLoop
theorem usedOf_count (l : List Bool) (n : Nat) : (usedOf l n).length = (l.take n).count true := by
  induction n with
  | zero => simp [usedOf]
  | succ n ih =>
    simp only [usedOf, List.length_append, ih]
    by_cases h : n < l.length
    · rw [List.take_succ_eq_append_getElem h, List.count_append]
      have : l[n]? = some l[n] := by simp [h]
      rw [this]
      cases l[n] <;> simp
    · rw [List.getElem?_eq_none (by omega), List.take_of_length_le (by omega), List.take_of_length_le (by omega)]
      simp
theorem used_count (m : Shelf) : m.used.length = m.countP Option.isSome := by
  unfold Shelf.used
  rw [usedOf_count, List.take_of_length_le (by simp)]
  induction m with
  | nil => rfl
  | cons a m ih => cases a <;> simp [List.count_cons, ih]
theorem taken_left {i k : Nat} (h : i ≤ k) : (taken i k).left = k - i := by
  unfold Shelf.left
  rw [used_count]
  simp [taken, List.countP_append, List.countP_replicate]
  omega
theorem taken_no {k : Nat} : (taken k k).alloc = (0, 3, taken k k) := by
  have : (taken k k).findIdx? Option.isNone = none := by rw [List.findIdx?_eq_none_iff]; intro x hx; simp [taken] at hx; rw [hx.2]; rfl
  unfold Shelf.alloc; rw [this]
theorem free_ok {m : Shelf} {a : Nat} {b : List UInt8} (h : m.get a = some b) : m.free a = (0, m.set a none) := by unfold Shelf.free; rw [h]; rfl
theorem free_bad {m : Shelf} {a : Int} (h : m.get a = none) : m.free a = (6, m) := by unfold Shelf.free; rw [h]
theorem read_bad {m : Shelf} {a : Int} (h : m.get a = none) : m.read a = ([], 6) := by unfold Shelf.read; rw [h]
theorem alloc_hole {m : Shelf} {a : Nat} (h : m[a]? = some none) (hn : ∀ i, i < m.length → i ≠ a → ∃ b, m[i]? = some (some b)) : m.alloc = (a, 0, m.set a (some zeros)) := by
  have : m.findIdx? Option.isNone = some a := by
    rw [List.findIdx?_eq_some_iff_getElem]
    obtain ⟨ha, he⟩ := List.getElem?_eq_some_iff.1 h
    refine ⟨ha, by rw [he]; rfl, fun j hj => ?_⟩
    obtain ⟨b, hb⟩ := hn j (by omega) (by omega)
    obtain ⟨hj', he'⟩ := List.getElem?_eq_some_iff.1 hb
    rw [he']; simp
  unfold Shelf.alloc; rw [this]
theorem fills_ (n at_ : Int) :
    HCall Try.prog 4 [.int .i64 n, .int .i64 at_] [] fun r _ => r = .bool true := by
  refine enter_4 (by unfold Try.f4; exact rfl) ?_
  simp (config := { maxSteps := 200000 }) only [go_sem, Nat.zero_add, Nat.add_zero, Nat.one_mul, Nat.mul_one, Nat.zero_mul, Nat.sub_zero, Nat.le_refl, Int.toNat_natCast, Int.ofNat_lt, Int.ofNat_le, Int.natCast_nonneg, Int.le_refl, Int.cast_ofNat_Int, Int.natCast_one, Int.reduceToNat, Int.reduceLE, Int.reduceLT, Int.reduceAdd, Int.reduceSub, Int.reduceMul, Int.reduceNeg, Int.toNat_zero, Int.reduceEq, Nat.reduceAdd, Nat.reduceSub, Nat.reduceMul, Nat.reduceLeDiff, Nat.reduceLT, Nat.reduceEqDiff, reduceCtorEq, ↓reduceIte, decide_true, decide_false]
  refine pend_intro ((place_ n 256 (by omega) (by omega)).call ?_)
  have hk1 := Int.emod_nonneg n (show (256 : Int) ≠ 0 by omega)
  have hk2 := Int.emod_lt_of_pos n (show (0 : Int) < 256 by omega)
  obtain ⟨k, hk⟩ : ∃ k : Nat, 1 + n % 256 = k := ⟨(1 + n % 256).toNat, by omega⟩
  simp (config := { maxSteps := 200000 }) only [go_sem, Nat.zero_add, Nat.add_zero, Nat.one_mul, Nat.mul_one, Nat.zero_mul, Nat.sub_zero, Nat.le_refl, Int.toNat_natCast, Int.ofNat_lt, Int.ofNat_le, Int.natCast_nonneg, Int.le_refl, Int.cast_ofNat_Int, Int.natCast_one, Int.reduceToNat, Int.reduceLE, Int.reduceLT, Int.reduceAdd, Int.reduceSub, Int.reduceMul, Int.reduceNeg, Int.toNat_zero, Int.reduceEq, Nat.reduceAdd, Nat.reduceSub, Nat.reduceMul, Nat.reduceLeDiff, Nat.reduceLT, Nat.reduceEqDiff, reduceCtorEq, ↓reduceIte, decide_true, decide_false, hk]
  refine ⟨by omega, pend_intro ((P_New [] k (by omega) (by omega)).mono ?_)⟩
  rintro r P1 ⟨p, own, rfl, x1, ho1, h1⟩
  simp (config := { maxSteps := 200000 }) only [go_sem, Nat.zero_add, Nat.add_zero, Nat.one_mul, Nat.mul_one, Nat.zero_mul, Nat.sub_zero, Nat.le_refl, Int.toNat_natCast, Int.ofNat_lt, Int.ofNat_le, Int.natCast_nonneg, Int.le_refl, Int.cast_ofNat_Int, Int.natCast_one, Int.reduceToNat, Int.reduceLE, Int.reduceLT, Int.reduceAdd, Int.reduceSub, Int.reduceMul, Int.reduceNeg, Int.toNat_zero, Int.reduceEq, Nat.reduceAdd, Nat.reduceSub, Nat.reduceMul, Nat.reduceLeDiff, Nat.reduceLT, Nat.reduceEqDiff, reduceCtorEq, ↓reduceIte, decide_true, decide_false, h1.live]
  refine pend_intro (loop_rule (α := Nat) [false, false, false, false, true, false, false, false, false, true, true, false, false, false, false, false, false, false, false, false, false, false, false, false, false, false, false, false, false, false, false, false, false, false, false, false, false, true, true, true, true, true, true, true, true, true, true, true, true, true, true, true, true, true, true, true, true, true, true, true, true, true, true] (fun i => [(8, .int .i64 i)]) (fun i => k - i) (fun i PS' => i ≤ k ∧ StoreP PS' (.ptr p 0 0 0) own (taken i k)) 0 ⟨Nat.zero_le _, by simpa [taken] using h1⟩ ?_ ?_)
  · simp only [go_sem, Nat.zero_add, Nat.add_zero, Nat.one_mul, Nat.mul_one, Nat.zero_mul, Nat.sub_zero, Nat.le_refl, Int.toNat_natCast, Int.ofNat_lt, Int.ofNat_le, Int.natCast_nonneg, Int.le_refl, Int.cast_ofNat_Int, Int.natCast_one, Int.reduceToNat, Int.reduceLE, Int.reduceLT, Int.reduceAdd, Int.reduceSub, Int.reduceMul, Int.reduceNeg, Int.toNat_zero, Int.reduceEq, Nat.reduceAdd, Nat.reduceSub, Nat.reduceMul, Nat.reduceLeDiff, Nat.reduceLT, Nat.reduceEqDiff, reduceCtorEq, ↓reduceIte, decide_true, decide_false, Int.natCast_zero]
  clear h1 x1
  rintro i P2 ⟨hi, h2⟩
  by_cases hlt : i < k
  · simp (config := { maxSteps := 200000 }) only [go_sem, Nat.zero_add, Nat.add_zero, Nat.one_mul, Nat.mul_one, Nat.zero_mul, Nat.sub_zero, Nat.le_refl, Int.toNat_natCast, Int.ofNat_lt, Int.ofNat_le, Int.natCast_nonneg, Int.le_refl, Int.cast_ofNat_Int, Int.natCast_one, Int.reduceToNat, Int.reduceLE, Int.reduceLT, Int.reduceAdd, Int.reduceSub, Int.reduceMul, Int.reduceNeg, Int.toNat_zero, Int.reduceEq, Nat.reduceAdd, Nat.reduceSub, Nat.reduceMul, Nat.reduceLeDiff, Nat.reduceLT, Nat.reduceEqDiff, reduceCtorEq, ↓reduceIte, decide_true, decide_false, hlt]
    refine pend_intro ((P_Alloc h2).mono ?_)
    rintro r P3 ⟨rfl, x3, h3⟩
    rw [taken_alloc hlt] at h3
    simp (config := { maxSteps := 200000 }) only [go_sem, Nat.zero_add, Nat.add_zero, Nat.one_mul, Nat.mul_one, Nat.zero_mul, Nat.sub_zero, Nat.le_refl, Int.toNat_natCast, Int.ofNat_lt, Int.ofNat_le, Int.natCast_nonneg, Int.le_refl, Int.cast_ofNat_Int, Int.natCast_one, Int.reduceToNat, Int.reduceLE, Int.reduceLT, Int.reduceAdd, Int.reduceSub, Int.reduceMul, Int.reduceNeg, Int.toNat_zero, Int.reduceEq, Nat.reduceAdd, Nat.reduceSub, Nat.reduceMul, Nat.reduceLeDiff, Nat.reduceLT, Nat.reduceEqDiff, reduceCtorEq, ↓reduceIte, decide_true, decide_false, taken_alloc hlt, HV.int.injEq]
    refine pend_intro ((P_Left h3).mono ?_)
    rintro r P4 ⟨rfl, rfl⟩
    have e1 : (k : Int) - ((i + 1 : Nat) : Int) = k - 1 - i := by omega
    simp (config := { maxSteps := 200000 }) only [go_sem, Nat.zero_add, Nat.add_zero, Nat.one_mul, Nat.mul_one, Nat.zero_mul, Nat.sub_zero, Nat.le_refl, Int.toNat_natCast, Int.ofNat_lt, Int.ofNat_le, Int.natCast_nonneg, Int.le_refl, Int.cast_ofNat_Int, Int.natCast_one, Int.reduceToNat, Int.reduceLE, Int.reduceLT, Int.reduceAdd, Int.reduceSub, Int.reduceMul, Int.reduceNeg, Int.toNat_zero, Int.reduceEq, Nat.reduceAdd, Nat.reduceSub, Nat.reduceMul, Nat.reduceLeDiff, Nat.reduceLT, Nat.reduceEqDiff, reduceCtorEq, ↓reduceIte, decide_true, decide_false, taken_left (i := i + 1) (k := k) (by omega), e1, HV.int.injEq]
    exact ⟨by omega, by omega, by omega, i + 1, by omega, ⟨by omega, h3⟩, by omega⟩
  · obtain rfl : i = k := by omega
    simp (config := { maxSteps := 200000 }) only [go_sem, Nat.zero_add, Nat.add_zero, Nat.one_mul, Nat.mul_one, Nat.zero_mul, Nat.sub_zero, Nat.le_refl, Int.toNat_natCast, Int.ofNat_lt, Int.ofNat_le, Int.natCast_nonneg, Int.le_refl, Int.cast_ofNat_Int, Int.natCast_one, Int.reduceToNat, Int.reduceLE, Int.reduceLT, Int.reduceAdd, Int.reduceSub, Int.reduceMul, Int.reduceNeg, Int.toNat_zero, Int.reduceEq, Nat.reduceAdd, Nat.reduceSub, Nat.reduceMul, Nat.reduceLeDiff, Nat.reduceLT, Nat.reduceEqDiff, reduceCtorEq, ↓reduceIte, decide_true, decide_false, hlt]
    refine pend_intro ((P_Alloc h2).mono ?_)
    rintro r P3 ⟨rfl, x3, h3⟩
    rw [taken_no] at h3
    rw [taken_full] at h3
    simp (config := { maxSteps := 200000 }) only [go_sem, Nat.zero_add, Nat.add_zero, Nat.one_mul, Nat.mul_one, Nat.zero_mul, Nat.sub_zero, Nat.le_refl, Int.toNat_natCast, Int.ofNat_lt, Int.ofNat_le, Int.natCast_nonneg, Int.le_refl, Int.cast_ofNat_Int, Int.natCast_one, Int.reduceToNat, Int.reduceLE, Int.reduceLT, Int.reduceAdd, Int.reduceSub, Int.reduceMul, Int.reduceNeg, Int.toNat_zero, Int.reduceEq, Nat.reduceAdd, Nat.reduceSub, Nat.reduceMul, Nat.reduceLeDiff, Nat.reduceLT, Nat.reduceEqDiff, reduceCtorEq, ↓reduceIte, decide_true, decide_false, taken_no]
    refine pend_intro ((place_ at_ i (by omega) (by omega)).call ?_)
    have ha1 := Int.emod_nonneg at_ (show (i : Int) ≠ 0 by omega)
    have ha2 := Int.emod_lt_of_pos at_ (show (0 : Int) < i by omega)
    obtain ⟨a, hea⟩ : ∃ a : Nat, at_ % i = a := ⟨(at_ % i).toNat, by omega⟩
    obtain ⟨tx, hbx⟩ := bytes_ 256 (by omega) 3
    simp (config := { maxSteps := 200000 }) only [go_sem, Nat.zero_add, Nat.add_zero, Nat.one_mul, Nat.mul_one, Nat.zero_mul, Nat.sub_zero, Nat.le_refl, Int.toNat_natCast, Int.ofNat_lt, Int.ofNat_le, Int.natCast_nonneg, Int.le_refl, Int.cast_ofNat_Int, Int.natCast_one, Int.reduceToNat, Int.reduceLE, Int.reduceLT, Int.reduceAdd, Int.reduceSub, Int.reduceMul, Int.reduceNeg, Int.toNat_zero, Int.reduceEq, Nat.reduceAdd, Nat.reduceSub, Nat.reduceMul, Nat.reduceLeDiff, Nat.reduceLT, Nat.reduceEqDiff, reduceCtorEq, ↓reduceIte, decide_true, decide_false, hea]
    refine pend_intro (hbx.call ?_)
    simp (config := { maxSteps := 200000 }) only [go_sem, Nat.zero_add, Nat.add_zero, Nat.one_mul, Nat.mul_one, Nat.zero_mul, Nat.sub_zero, Nat.le_refl, Int.toNat_natCast, Int.ofNat_lt, Int.ofNat_le, Int.natCast_nonneg, Int.le_refl, Int.cast_ofNat_Int, Int.natCast_one, Int.reduceToNat, Int.reduceLE, Int.reduceLT, Int.reduceAdd, Int.reduceSub, Int.reduceMul, Int.reduceNeg, Int.toNat_zero, Int.reduceEq, Nat.reduceAdd, Nat.reduceSub, Nat.reduceMul, Nat.reduceLeDiff, Nat.reduceLT, Nat.reduceEqDiff, reduceCtorEq, ↓reduceIte, decide_true, decide_false]
    have g1 := get_rep (k := i) (a := a) (by omega)
    have w1 := write_ok g1 (made_len 256 3)
    refine pend_intro ((P_Write h3 a tx (made 256 3)).mono ?_)
    rintro r P4 ⟨rfl, x4, h4⟩
    rw [w1] at h4
    simp (config := { maxSteps := 200000 }) only [go_sem, Nat.zero_add, Nat.add_zero, Nat.one_mul, Nat.mul_one, Nat.zero_mul, Nat.sub_zero, Nat.le_refl, Int.toNat_natCast, Int.ofNat_lt, Int.ofNat_le, Int.natCast_nonneg, Int.le_refl, Int.cast_ofNat_Int, Int.natCast_one, Int.reduceToNat, Int.reduceLE, Int.reduceLT, Int.reduceAdd, Int.reduceSub, Int.reduceMul, Int.reduceNeg, Int.toNat_zero, Int.reduceEq, Nat.reduceAdd, Nat.reduceSub, Nat.reduceMul, Nat.reduceLeDiff, Nat.reduceLT, Nat.reduceEqDiff, reduceCtorEq, ↓reduceIte, decide_true, decide_false, w1]
    have g2 : Shelf.get ((List.replicate i (some zeros)).set a (some (made 256 3))) a = some (made 256 3) := get_set_eq (by simp; omega) _
    have f1 := free_ok g2
    rw [List.set_set] at f1
    refine pend_intro ((P_Free h4 a).mono ?_)
    rintro r P5 ⟨rfl, x5, h5⟩
    rw [f1] at h5
    simp (config := { maxSteps := 200000 }) only [go_sem, Nat.zero_add, Nat.add_zero, Nat.one_mul, Nat.mul_one, Nat.zero_mul, Nat.sub_zero, Nat.le_refl, Int.toNat_natCast, Int.ofNat_lt, Int.ofNat_le, Int.natCast_nonneg, Int.le_refl, Int.cast_ofNat_Int, Int.natCast_one, Int.reduceToNat, Int.reduceLE, Int.reduceLT, Int.reduceAdd, Int.reduceSub, Int.reduceMul, Int.reduceNeg, Int.toNat_zero, Int.reduceEq, Nat.reduceAdd, Nat.reduceSub, Nat.reduceMul, Nat.reduceLeDiff, Nat.reduceLT, Nat.reduceEqDiff, reduceCtorEq, ↓reduceIte, decide_true, decide_false, f1]
    have g3 : Shelf.get ((List.replicate i (some zeros)).set a none) a = none := get_set_eq (by simp; omega) _
    have f2 := free_bad g3
    refine pend_intro ((P_Free h5 a).mono ?_)
    rintro r P6 ⟨rfl, x6, h6⟩
    rw [f2] at h6
    simp (config := { maxSteps := 200000 }) only [go_sem, Nat.zero_add, Nat.add_zero, Nat.one_mul, Nat.mul_one, Nat.zero_mul, Nat.sub_zero, Nat.le_refl, Int.toNat_natCast, Int.ofNat_lt, Int.ofNat_le, Int.natCast_nonneg, Int.le_refl, Int.cast_ofNat_Int, Int.natCast_one, Int.reduceToNat, Int.reduceLE, Int.reduceLT, Int.reduceAdd, Int.reduceSub, Int.reduceMul, Int.reduceNeg, Int.toNat_zero, Int.reduceEq, Nat.reduceAdd, Nat.reduceSub, Nat.reduceMul, Nat.reduceLeDiff, Nat.reduceLT, Nat.reduceEqDiff, reduceCtorEq, ↓reduceIte, decide_true, decide_false, f2]
    have r1 := read_bad g3
    refine pend_intro ((P_Read h6 a).mono ?_)
    rintro r P7 ⟨⟨t7, rfl⟩, rfl⟩
    simp (config := { maxSteps := 200000 }) only [go_sem, Nat.zero_add, Nat.add_zero, Nat.one_mul, Nat.mul_one, Nat.zero_mul, Nat.sub_zero, Nat.le_refl, Int.toNat_natCast, Int.ofNat_lt, Int.ofNat_le, Int.natCast_nonneg, Int.le_refl, Int.cast_ofNat_Int, Int.natCast_one, Int.reduceToNat, Int.reduceLE, Int.reduceLT, Int.reduceAdd, Int.reduceSub, Int.reduceMul, Int.reduceNeg, Int.toNat_zero, Int.reduceEq, Nat.reduceAdd, Nat.reduceSub, Nat.reduceMul, Nat.reduceLeDiff, Nat.reduceLT, Nat.reduceEqDiff, reduceCtorEq, ↓reduceIte, decide_true, decide_false, r1]
    have al : Shelf.alloc ((List.replicate i (some zeros)).set a none) = (a, 0, (List.replicate i (some zeros)).set a (some zeros)) := by
      have e0 : ((List.replicate i (some zeros)).set a none)[a]? = some none := by rw [List.getElem?_set_self (by simp; omega)]
      rw [alloc_hole e0 (fun j hj hja => ⟨zeros, by rw [List.getElem?_set_ne (Ne.symm hja)]; rw [List.length_set, List.length_replicate] at hj; simp [hj]⟩), List.set_set]
    refine pend_intro ((P_Alloc h6).mono ?_)
    rintro r P8 ⟨rfl, x8, h8⟩
    rw [al] at h8
    simp (config := { maxSteps := 200000 }) only [go_sem, Nat.zero_add, Nat.add_zero, Nat.one_mul, Nat.mul_one, Nat.zero_mul, Nat.sub_zero, Nat.le_refl, Int.toNat_natCast, Int.ofNat_lt, Int.ofNat_le, Int.natCast_nonneg, Int.le_refl, Int.cast_ofNat_Int, Int.natCast_one, Int.reduceToNat, Int.reduceLE, Int.reduceLT, Int.reduceAdd, Int.reduceSub, Int.reduceMul, Int.reduceNeg, Int.toNat_zero, Int.reduceEq, Nat.reduceAdd, Nat.reduceSub, Nat.reduceMul, Nat.reduceLeDiff, Nat.reduceLT, Nat.reduceEqDiff, reduceCtorEq, ↓reduceIte, decide_true, decide_false, al]
    have g4 : Shelf.get ((List.replicate i (some zeros)).set a (some zeros)) a = some zeros := get_set_eq (by simp; omega) _
    have r2 := read_ok g4
    refine pend_intro ((P_Read h8 a).mono ?_)
    rintro r P9 ⟨⟨t9, rfl⟩, rfl⟩
    simp (config := { maxSteps := 200000 }) only [go_sem, Nat.zero_add, Nat.add_zero, Nat.one_mul, Nat.mul_one, Nat.zero_mul, Nat.sub_zero, Nat.le_refl, Int.toNat_natCast, Int.ofNat_lt, Int.ofNat_le, Int.natCast_nonneg, Int.le_refl, Int.cast_ofNat_Int, Int.natCast_one, Int.reduceToNat, Int.reduceLE, Int.reduceLT, Int.reduceAdd, Int.reduceSub, Int.reduceMul, Int.reduceNeg, Int.toNat_zero, Int.reduceEq, Nat.reduceAdd, Nat.reduceSub, Nat.reduceMul, Nat.reduceLeDiff, Nat.reduceLT, Nat.reduceEqDiff, reduceCtorEq, ↓reduceIte, decide_true, decide_false, r2]
    have hz : List.take 256 (List.replicate 256 [HV.int .u8 0]) = bytesRows zeros := by rw [List.take_of_length_le (by simp)]; simp [bytesRows, zeros]
    simp (config := { maxSteps := 200000 }) only [go_sem, Nat.zero_add, Nat.add_zero, Nat.one_mul, Nat.mul_one, Nat.zero_mul, Nat.sub_zero, Nat.le_refl, Int.toNat_natCast, Int.ofNat_lt, Int.ofNat_le, Int.natCast_nonneg, Int.le_refl, Int.cast_ofNat_Int, Int.natCast_one, Int.reduceToNat, Int.reduceLE, Int.reduceLT, Int.reduceAdd, Int.reduceSub, Int.reduceMul, Int.reduceNeg, Int.toNat_zero, Int.reduceEq, Nat.reduceAdd, Nat.reduceSub, Nat.reduceMul, Nat.reduceLeDiff, Nat.reduceLT, Nat.reduceEqDiff, reduceCtorEq, ↓reduceIte, decide_true, decide_false, getP_last, hz, List.length_replicate]
    refine pend_intro (awake_pure.call ?_)
    simp (config := { maxSteps := 200000 }) only [go_sem, Nat.zero_add, Nat.add_zero, Nat.one_mul, Nat.mul_one, Nat.zero_mul, Nat.sub_zero, Nat.le_refl, Int.toNat_natCast, Int.ofNat_lt, Int.ofNat_le, Int.natCast_nonneg, Int.le_refl, Int.cast_ofNat_Int, Int.natCast_one, Int.reduceToNat, Int.reduceLE, Int.reduceLT, Int.reduceAdd, Int.reduceSub, Int.reduceMul, Int.reduceNeg, Int.toNat_zero, Int.reduceEq, Nat.reduceAdd, Nat.reduceSub, Nat.reduceMul, Nat.reduceLeDiff, Nat.reduceLT, Nat.reduceEqDiff, reduceCtorEq, ↓reduceIte, decide_true, decide_false]
end Go.Proofs.Ytpegkffdhpdciaa
