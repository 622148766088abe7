import Derived.Test.YtpegkffdhpdciaaStJ
namespace Go.Proofs.Ytpegkffdhpdciaa
open Go Go.Eng
set_option maxRecDepth 20000
set_option linter.unusedSimpArgs false
attribute [local irreducible] hvc hops hop hplan hval1 hopD HLoop
theorem awake_pure : Pure Try.prog 13 [] (.bool true) := Pure.of_ext (.bool _) awake_
/-- The first i of k blocks are taken. -/
def taken (i k : Nat) : Shelf := List.replicate i (some zeros) ++ List.replicate (k - i) none
theorem taken_alloc {i k : Nat} (h : i < k) : (taken i k).alloc = (i, 0, taken (i + 1) k) := by
  have h1 : k - i = (k - (i + 1)) + 1 := by omega
  have h2 : (taken i k).findIdx? Option.isNone = some i := by
    rw [List.findIdx?_eq_some_iff_getElem]
    refine ⟨by simp [taken]; omega, by simp [taken, List.getElem_append], fun j hj => by simp [taken, List.getElem_append, hj]⟩
  unfold Shelf.alloc
  rw [h2]
  simp only [Prod.mk.injEq, true_and]
  simp only [taken, h1, List.replicate_succ]
  rw [List.set_append_right _ _ (by simp), List.length_replicate, Nat.sub_self, List.set_cons_zero, ← List.replicate_succ (n := i), List.replicate_succ', List.append_assoc]
  rfl
theorem taken_full (k : Nat) : taken k k = List.replicate k (some zeros) := by simp [taken]
theorem get_rep {k : Nat} {a : Nat} (h : a < k) : Shelf.get (List.replicate k (some zeros)) a = some zeros := by simp [Shelf.get, List.getD, h]
theorem get_set_eq {m : Shelf} {a : Nat} (h : a < m.length) (o : Option (List UInt8)) : Shelf.get (m.set a o) a = o := by simp [Shelf.get, List.getD, h]
theorem get_set_ne {m : Shelf} {a b : Nat} (h : a ≠ b) (o : Option (List UInt8)) : Shelf.get (m.set a o) b = Shelf.get m b := by simp [Shelf.get, List.getD, h]
theorem write_ok {m : Shelf} {a : Nat} {b l : List UInt8} (h : m.get a = some b) (hl : l.length = 256) : m.write a l = (0, m.set a (some l)) := by simp [Shelf.write, h, hl]
theorem read_ok {m : Shelf} {a : Int} {b : List UInt8} (h : m.get a = some b) : m.read a = (b, 0) := by unfold Shelf.read; rw [h]
theorem made_len (n : Nat) (y : UInt8) : (made n y).length = n := by simp [made]
/-- Keeps. -/
theorem keeps_ (n at_ other : Int) (x y : UInt8) (hn : InR64 n) (ha : InR64 at_) (ho : InR64 other) :
    HCall Try.prog 3 [.int .i64 n, .int .i64 at_, .int .i64 other, .int .u8 x.toNat, .int .u8 y.toNat] [] fun r _ => r = .bool true := by
  refine enter_3 (by unfold Try.f3; exact rfl) ?_
  simp (config := { maxSteps := 200000 }) only [go_sem, Nat.zero_add, Nat.add_zero, Nat.one_mul, Nat.mul_one, Nat.zero_mul, Nat.sub_zero, Nat.le_refl, Int.toNat_natCast, Int.ofNat_lt, Int.ofNat_le, Int.natCast_nonneg, Int.le_refl, Int.cast_ofNat_Int, Int.natCast_one, Int.reduceToNat, Int.reduceLE, Int.reduceLT, Int.reduceAdd, Int.reduceSub, Int.reduceMul, Int.reduceNeg, Int.toNat_zero, Int.reduceEq, Nat.reduceAdd, Nat.reduceSub, Nat.reduceMul, Nat.reduceLeDiff, Nat.reduceLT, Nat.reduceEqDiff, reduceCtorEq, ↓reduceIte, decide_true, decide_false]
  refine pend_intro ((place_ n 39 (by omega) (by omega)).call ?_)
  have hk1 := Int.emod_nonneg n (show (39 : Int) ≠ 0 by omega)
  have hk2 := Int.emod_lt_of_pos n (show (0 : Int) < 39 by omega)
  obtain ⟨k, hk⟩ : ∃ k : Nat, 2 + n % 39 = k := ⟨(2 + n % 39).toNat, by omega⟩
  simp (config := { maxSteps := 200000 }) only [go_sem, Nat.zero_add, Nat.add_zero, Nat.one_mul, Nat.mul_one, Nat.zero_mul, Nat.sub_zero, Nat.le_refl, Int.toNat_natCast, Int.ofNat_lt, Int.ofNat_le, Int.natCast_nonneg, Int.le_refl, Int.cast_ofNat_Int, Int.natCast_one, Int.reduceToNat, Int.reduceLE, Int.reduceLT, Int.reduceAdd, Int.reduceSub, Int.reduceMul, Int.reduceNeg, Int.toNat_zero, Int.reduceEq, Nat.reduceAdd, Nat.reduceSub, Nat.reduceMul, Nat.reduceLeDiff, Nat.reduceLT, Nat.reduceEqDiff, reduceCtorEq, ↓reduceIte, decide_true, decide_false, hk]
  refine ⟨by omega, pend_intro ((P_New [] k (by omega) (by omega)).mono ?_)⟩
  rintro r P1 ⟨p, own, rfl, x1, ho1, h1⟩
  simp (config := { maxSteps := 200000 }) only [go_sem, Nat.zero_add, Nat.add_zero, Nat.one_mul, Nat.mul_one, Nat.zero_mul, Nat.sub_zero, Nat.le_refl, Int.toNat_natCast, Int.ofNat_lt, Int.ofNat_le, Int.natCast_nonneg, Int.le_refl, Int.cast_ofNat_Int, Int.natCast_one, Int.reduceToNat, Int.reduceLE, Int.reduceLT, Int.reduceAdd, Int.reduceSub, Int.reduceMul, Int.reduceNeg, Int.toNat_zero, Int.reduceEq, Nat.reduceAdd, Nat.reduceSub, Nat.reduceMul, Nat.reduceLeDiff, Nat.reduceLT, Nat.reduceEqDiff, reduceCtorEq, ↓reduceIte, decide_true, decide_false, h1.live]
  refine pend_intro (loop_rule (α := Nat) [false, false, false, false, false, false, false, false, false, false, true, false, false, false, false, true, true, false, false, false, false, false, false, false, false, false, false, false, false, false, false, false, false, false, false, false, false, false, false, false, true, true, true, true, true, true, true, true, true, true, true, true, true, true, true, true, true] (fun i => [(14, .int .i64 i)]) (fun i => k - i) (fun i PS' => i ≤ k ∧ StoreP PS' (.ptr p 0 0 0) own (taken i k)) 0 ⟨Nat.zero_le _, by simpa [taken] using h1⟩ ?_ ?_)
  · simp only [go_sem, Nat.zero_add, Nat.add_zero, Nat.one_mul, Nat.mul_one, Nat.zero_mul, Nat.sub_zero, Nat.le_refl, Int.toNat_natCast, Int.ofNat_lt, Int.ofNat_le, Int.natCast_nonneg, Int.le_refl, Int.cast_ofNat_Int, Int.natCast_one, Int.reduceToNat, Int.reduceLE, Int.reduceLT, Int.reduceAdd, Int.reduceSub, Int.reduceMul, Int.reduceNeg, Int.toNat_zero, Int.reduceEq, Nat.reduceAdd, Nat.reduceSub, Nat.reduceMul, Nat.reduceLeDiff, Nat.reduceLT, Nat.reduceEqDiff, reduceCtorEq, ↓reduceIte, decide_true, decide_false, Int.natCast_zero]
  clear h1 x1
  rintro i P2 ⟨hi, h2⟩
  by_cases hlt : i < k
  · simp (config := { maxSteps := 200000 }) only [go_sem, Nat.zero_add, Nat.add_zero, Nat.one_mul, Nat.mul_one, Nat.zero_mul, Nat.sub_zero, Nat.le_refl, Int.toNat_natCast, Int.ofNat_lt, Int.ofNat_le, Int.natCast_nonneg, Int.le_refl, Int.cast_ofNat_Int, Int.natCast_one, Int.reduceToNat, Int.reduceLE, Int.reduceLT, Int.reduceAdd, Int.reduceSub, Int.reduceMul, Int.reduceNeg, Int.toNat_zero, Int.reduceEq, Nat.reduceAdd, Nat.reduceSub, Nat.reduceMul, Nat.reduceLeDiff, Nat.reduceLT, Nat.reduceEqDiff, reduceCtorEq, ↓reduceIte, decide_true, decide_false, hlt]
    refine pend_intro ((P_Alloc h2).mono ?_)
    rintro r P3 ⟨rfl, x3, h3⟩
    rw [taken_alloc hlt] at h3
    simp (config := { maxSteps := 200000 }) only [go_sem, Nat.zero_add, Nat.add_zero, Nat.one_mul, Nat.mul_one, Nat.zero_mul, Nat.sub_zero, Nat.le_refl, Int.toNat_natCast, Int.ofNat_lt, Int.ofNat_le, Int.natCast_nonneg, Int.le_refl, Int.cast_ofNat_Int, Int.natCast_one, Int.reduceToNat, Int.reduceLE, Int.reduceLT, Int.reduceAdd, Int.reduceSub, Int.reduceMul, Int.reduceNeg, Int.toNat_zero, Int.reduceEq, Nat.reduceAdd, Nat.reduceSub, Nat.reduceMul, Nat.reduceLeDiff, Nat.reduceLT, Nat.reduceEqDiff, reduceCtorEq, ↓reduceIte, decide_true, decide_false, taken_alloc hlt, HV.int.injEq]
    exact ⟨by omega, i + 1, by omega, ⟨by omega, h3⟩, by omega⟩
  · obtain rfl : i = k := by omega
    rw [taken_full] at h2
    simp (config := { maxSteps := 200000 }) only [go_sem, Nat.zero_add, Nat.add_zero, Nat.one_mul, Nat.mul_one, Nat.zero_mul, Nat.sub_zero, Nat.le_refl, Int.toNat_natCast, Int.ofNat_lt, Int.ofNat_le, Int.natCast_nonneg, Int.le_refl, Int.cast_ofNat_Int, Int.natCast_one, Int.reduceToNat, Int.reduceLE, Int.reduceLT, Int.reduceAdd, Int.reduceSub, Int.reduceMul, Int.reduceNeg, Int.toNat_zero, Int.reduceEq, Nat.reduceAdd, Nat.reduceSub, Nat.reduceMul, Nat.reduceLeDiff, Nat.reduceLT, Nat.reduceEqDiff, reduceCtorEq, ↓reduceIte, decide_true, decide_false, hlt]
    refine pend_intro ((place_ at_ i (by omega) (by omega)).call ?_)
    have ha1 := Int.emod_nonneg at_ (show (i : Int) ≠ 0 by omega)
    have ha2 := Int.emod_lt_of_pos at_ (show (0 : Int) < i by omega)
    obtain ⟨a, hea⟩ : ∃ a : Nat, at_ % i = a := ⟨(at_ % i).toNat, by omega⟩
    simp (config := { maxSteps := 200000 }) only [go_sem, Nat.zero_add, Nat.add_zero, Nat.one_mul, Nat.mul_one, Nat.zero_mul, Nat.sub_zero, Nat.le_refl, Int.toNat_natCast, Int.ofNat_lt, Int.ofNat_le, Int.natCast_nonneg, Int.le_refl, Int.cast_ofNat_Int, Int.natCast_one, Int.reduceToNat, Int.reduceLE, Int.reduceLT, Int.reduceAdd, Int.reduceSub, Int.reduceMul, Int.reduceNeg, Int.toNat_zero, Int.reduceEq, Nat.reduceAdd, Nat.reduceSub, Nat.reduceMul, Nat.reduceLeDiff, Nat.reduceLT, Nat.reduceEqDiff, reduceCtorEq, ↓reduceIte, decide_true, decide_false, hea]
    refine ⟨by omega, by omega, pend_intro ((place_ other (i - 1) (by omega) (by omega)).call ?_)⟩
    have hc1 := Int.emod_nonneg other (show (i : Int) - 1 ≠ 0 by omega)
    have hc2 := Int.emod_lt_of_pos other (show (0 : Int) < (i : Int) - 1 by omega)
    obtain ⟨c, hec⟩ : ∃ c : Nat, other % (i - 1) = c := ⟨(other % (i - 1)).toNat, by omega⟩
    obtain ⟨b, heb⟩ : ∃ b : Nat, (a + 1 + c) % i = b := ⟨_, rfl⟩
    have hb1 : b < i := heb ▸ Nat.mod_lt _ (by omega)
    have hb2 : a ≠ b := by
      by_cases h : a + 1 + c < i
      · rw [Nat.mod_eq_of_lt h] at heb; omega
      · rw [Nat.mod_eq_sub_mod (by omega), Nat.mod_eq_of_lt (by omega)] at heb; omega
    have heb' : (↑a + 1 + ↑c : Int).tmod ↑i = ↑b := by rw [Int.tmod_eq_emod_of_nonneg (by omega), ← heb]; exact (Int.natCast_emod (a + 1 + c) i).symm
    have hi0 : ¬ (i : Int) = 0 := by omega
    obtain ⟨tx, hbx⟩ := bytes_ 256 (by omega) x
    obtain ⟨ty, hby⟩ := bytes_ 256 (by omega) y
    simp (config := { maxSteps := 200000 }) only [go_sem, Nat.zero_add, Nat.add_zero, Nat.one_mul, Nat.mul_one, Nat.zero_mul, Nat.sub_zero, Nat.le_refl, Int.toNat_natCast, Int.ofNat_lt, Int.ofNat_le, Int.natCast_nonneg, Int.le_refl, Int.cast_ofNat_Int, Int.natCast_one, Int.reduceToNat, Int.reduceLE, Int.reduceLT, Int.reduceAdd, Int.reduceSub, Int.reduceMul, Int.reduceNeg, Int.toNat_zero, Int.reduceEq, Nat.reduceAdd, Nat.reduceSub, Nat.reduceMul, Nat.reduceLeDiff, Nat.reduceLT, Nat.reduceEqDiff, reduceCtorEq, ↓reduceIte, decide_true, decide_false, hec, heb', hi0]
    refine ⟨by omega, pend_intro (hbx.call ?_)⟩
    simp (config := { maxSteps := 200000 }) only [go_sem, Nat.zero_add, Nat.add_zero, Nat.one_mul, Nat.mul_one, Nat.zero_mul, Nat.sub_zero, Nat.le_refl, Int.toNat_natCast, Int.ofNat_lt, Int.ofNat_le, Int.natCast_nonneg, Int.le_refl, Int.cast_ofNat_Int, Int.natCast_one, Int.reduceToNat, Int.reduceLE, Int.reduceLT, Int.reduceAdd, Int.reduceSub, Int.reduceMul, Int.reduceNeg, Int.toNat_zero, Int.reduceEq, Nat.reduceAdd, Nat.reduceSub, Nat.reduceMul, Nat.reduceLeDiff, Nat.reduceLT, Nat.reduceEqDiff, reduceCtorEq, ↓reduceIte, decide_true, decide_false]
    refine pend_intro ((P_Write h2 a tx (made 256 x)).mono ?_)
    have g1 := get_rep (k := i) (a := a) (by omega)
    have w1 := write_ok g1 (made_len 256 x)
    rintro r P3 ⟨rfl, x3, h3⟩
    rw [w1] at h3
    simp (config := { maxSteps := 200000 }) only [go_sem, Nat.zero_add, Nat.add_zero, Nat.one_mul, Nat.mul_one, Nat.zero_mul, Nat.sub_zero, Nat.le_refl, Int.toNat_natCast, Int.ofNat_lt, Int.ofNat_le, Int.natCast_nonneg, Int.le_refl, Int.cast_ofNat_Int, Int.natCast_one, Int.reduceToNat, Int.reduceLE, Int.reduceLT, Int.reduceAdd, Int.reduceSub, Int.reduceMul, Int.reduceNeg, Int.toNat_zero, Int.reduceEq, Nat.reduceAdd, Nat.reduceSub, Nat.reduceMul, Nat.reduceLeDiff, Nat.reduceLT, Nat.reduceEqDiff, reduceCtorEq, ↓reduceIte, decide_true, decide_false, w1]
    refine pend_intro (hby.call ?_)
    simp (config := { maxSteps := 200000 }) only [go_sem, Nat.zero_add, Nat.add_zero, Nat.one_mul, Nat.mul_one, Nat.zero_mul, Nat.sub_zero, Nat.le_refl, Int.toNat_natCast, Int.ofNat_lt, Int.ofNat_le, Int.natCast_nonneg, Int.le_refl, Int.cast_ofNat_Int, Int.natCast_one, Int.reduceToNat, Int.reduceLE, Int.reduceLT, Int.reduceAdd, Int.reduceSub, Int.reduceMul, Int.reduceNeg, Int.toNat_zero, Int.reduceEq, Nat.reduceAdd, Nat.reduceSub, Nat.reduceMul, Nat.reduceLeDiff, Nat.reduceLT, Nat.reduceEqDiff, reduceCtorEq, ↓reduceIte, decide_true, decide_false]
    have g2 := (get_set_ne (m := List.replicate i (some zeros)) hb2 (some (made 256 x))).trans (get_rep hb1)
    have w2 := write_ok g2 (made_len 256 y)
    refine pend_intro ((P_Write h3 b ty (made 256 y)).mono ?_)
    rintro r P4 ⟨rfl, x4, h4⟩
    rw [w2] at h4
    simp (config := { maxSteps := 200000 }) only [go_sem, Nat.zero_add, Nat.add_zero, Nat.one_mul, Nat.mul_one, Nat.zero_mul, Nat.sub_zero, Nat.le_refl, Int.toNat_natCast, Int.ofNat_lt, Int.ofNat_le, Int.natCast_nonneg, Int.le_refl, Int.cast_ofNat_Int, Int.natCast_one, Int.reduceToNat, Int.reduceLE, Int.reduceLT, Int.reduceAdd, Int.reduceSub, Int.reduceMul, Int.reduceNeg, Int.toNat_zero, Int.reduceEq, Nat.reduceAdd, Nat.reduceSub, Nat.reduceMul, Nat.reduceLeDiff, Nat.reduceLT, Nat.reduceEqDiff, reduceCtorEq, ↓reduceIte, decide_true, decide_false, w2]
    have g3 : Shelf.get (((List.replicate i (some zeros)).set a (some (made 256 x))).set b (some (made 256 y))) a = some (made 256 x) := by
      rw [get_set_ne (Ne.symm hb2), get_set_eq (by simpa using (by omega : a < i))]
    have r3 : Shelf.read (((List.replicate i (some zeros)).set a (some (made 256 x))).set b (some (made 256 y))) a = (made 256 x, 0) := read_ok g3
    refine pend_intro ((P_Read h4 a).mono ?_)
    rintro r P5 ⟨⟨t5, rfl⟩, rfl⟩
    simp (config := { maxSteps := 200000 }) only [go_sem, Nat.zero_add, Nat.add_zero, Nat.one_mul, Nat.mul_one, Nat.zero_mul, Nat.sub_zero, Nat.le_refl, Int.toNat_natCast, Int.ofNat_lt, Int.ofNat_le, Int.natCast_nonneg, Int.le_refl, Int.cast_ofNat_Int, Int.natCast_one, Int.reduceToNat, Int.reduceLE, Int.reduceLT, Int.reduceAdd, Int.reduceSub, Int.reduceMul, Int.reduceNeg, Int.toNat_zero, Int.reduceEq, Nat.reduceAdd, Nat.reduceSub, Nat.reduceMul, Nat.reduceLeDiff, Nat.reduceLT, Nat.reduceEqDiff, reduceCtorEq, ↓reduceIte, decide_true, decide_false, r3]
    refine pend_intro (hbx.call ?_)
    simp (config := { maxSteps := 200000 }) only [go_sem, Nat.zero_add, Nat.add_zero, Nat.one_mul, Nat.mul_one, Nat.zero_mul, Nat.sub_zero, Nat.le_refl, Int.toNat_natCast, Int.ofNat_lt, Int.ofNat_le, Int.natCast_nonneg, Int.le_refl, Int.cast_ofNat_Int, Int.natCast_one, Int.reduceToNat, Int.reduceLE, Int.reduceLT, Int.reduceAdd, Int.reduceSub, Int.reduceMul, Int.reduceNeg, Int.toNat_zero, Int.reduceEq, Nat.reduceAdd, Nat.reduceSub, Nat.reduceMul, Nat.reduceLeDiff, Nat.reduceLT, Nat.reduceEqDiff, reduceCtorEq, ↓reduceIte, decide_true, decide_false]
    refine pend_intro ((P_Write h4 b t5 (made 256 x)).mono ?_)
    have g4 : Shelf.get (((List.replicate i (some zeros)).set a (some (made 256 x))).set b (some (made 256 y))) b = some (made 256 y) := get_set_eq (by simpa using hb1) _
    have w4 := write_ok g4 (made_len 256 x)
    rintro r P6 ⟨rfl, x6, h6⟩
    rw [w4] at h6
    simp (config := { maxSteps := 200000 }) only [go_sem, Nat.zero_add, Nat.add_zero, Nat.one_mul, Nat.mul_one, Nat.zero_mul, Nat.sub_zero, Nat.le_refl, Int.toNat_natCast, Int.ofNat_lt, Int.ofNat_le, Int.natCast_nonneg, Int.le_refl, Int.cast_ofNat_Int, Int.natCast_one, Int.reduceToNat, Int.reduceLE, Int.reduceLT, Int.reduceAdd, Int.reduceSub, Int.reduceMul, Int.reduceNeg, Int.toNat_zero, Int.reduceEq, Nat.reduceAdd, Nat.reduceSub, Nat.reduceMul, Nat.reduceLeDiff, Nat.reduceLT, Nat.reduceEqDiff, reduceCtorEq, ↓reduceIte, decide_true, decide_false, w4]
    have g5 : Shelf.get ((((List.replicate i (some zeros)).set a (some (made 256 x))).set b (some (made 256 y))).set b (some (made 256 x))) a = some (made 256 x) := by
      rw [get_set_ne (Ne.symm hb2)]; exact g3
    have r5 : Shelf.read ((((List.replicate i (some zeros)).set a (some (made 256 x))).set b (some (made 256 y))).set b (some (made 256 x))) a = (made 256 x, 0) := read_ok g5
    refine pend_intro ((P_Read h6 a).mono ?_)
    rintro r P7 ⟨⟨t7, rfl⟩, rfl⟩
    simp (config := { maxSteps := 200000 }) only [go_sem, Nat.zero_add, Nat.add_zero, Nat.one_mul, Nat.mul_one, Nat.zero_mul, Nat.sub_zero, Nat.le_refl, Int.toNat_natCast, Int.ofNat_lt, Int.ofNat_le, Int.natCast_nonneg, Int.le_refl, Int.cast_ofNat_Int, Int.natCast_one, Int.reduceToNat, Int.reduceLE, Int.reduceLT, Int.reduceAdd, Int.reduceSub, Int.reduceMul, Int.reduceNeg, Int.toNat_zero, Int.reduceEq, Nat.reduceAdd, Nat.reduceSub, Nat.reduceMul, Nat.reduceLeDiff, Nat.reduceLT, Nat.reduceEqDiff, reduceCtorEq, ↓reduceIte, decide_true, decide_false, r5]
    refine pend_intro (hbx.call ?_)
    simp (config := { maxSteps := 200000 }) only [go_sem, Nat.zero_add, Nat.add_zero, Nat.one_mul, Nat.mul_one, Nat.zero_mul, Nat.sub_zero, Nat.le_refl, Int.toNat_natCast, Int.ofNat_lt, Int.ofNat_le, Int.natCast_nonneg, Int.le_refl, Int.cast_ofNat_Int, Int.natCast_one, Int.reduceToNat, Int.reduceLE, Int.reduceLT, Int.reduceAdd, Int.reduceSub, Int.reduceMul, Int.reduceNeg, Int.toNat_zero, Int.reduceEq, Nat.reduceAdd, Nat.reduceSub, Nat.reduceMul, Nat.reduceLeDiff, Nat.reduceLT, Nat.reduceEqDiff, reduceCtorEq, ↓reduceIte, decide_true, decide_false]
    refine pend_intro (awake_pure.call ?_)
    simp (config := { maxSteps := 200000 }) only [go_sem, Nat.zero_add, Nat.add_zero, Nat.one_mul, Nat.mul_one, Nat.zero_mul, Nat.sub_zero, Nat.le_refl, Int.toNat_natCast, Int.ofNat_lt, Int.ofNat_le, Int.natCast_nonneg, Int.le_refl, Int.cast_ofNat_Int, Int.natCast_one, Int.reduceToNat, Int.reduceLE, Int.reduceLT, Int.reduceAdd, Int.reduceSub, Int.reduceMul, Int.reduceNeg, Int.toNat_zero, Int.reduceEq, Nat.reduceAdd, Nat.reduceSub, Nat.reduceMul, Nat.reduceLeDiff, Nat.reduceLT, Nat.reduceEqDiff, reduceCtorEq, ↓reduceIte, decide_true, decide_false]
end Go.Proofs.Ytpegkffdhpdciaa
