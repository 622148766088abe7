import Derived.Test.YtpegkffdhpdciaaStC
namespace Go.Proofs.Ytpegkffdhpdciaa
open Go Go.Eng
set_option maxRecDepth 20000
set_option linter.unusedSimpArgs false
attribute [local irreducible] hvc hops hop hplan hval1 hopD HLoop
theorem bytesRows_len (l : List UInt8) : (bytesRows l).length = l.length := by simp [bytesRows]
theorem bytesRows_one (l : List UInt8) : ∀ r ∈ bytesRows l, r.length = 1 := by intro r hr; simp [bytesRows] at hr; obtain ⟨b, _, rfl⟩ := hr; rfl
@[go_sem ↓, go_sem] theorem bytesRows_ok (l : List UInt8) : (∀ r ∈ bytesRows l, r.length = 1) = True := eq_true (bytesRows_one l)
theorem bytesRows_scoped (k : Nat) (t : Bool) (l : List UInt8) : Scoped k (.imm t (bytesRows l)) := by
  rw [scoped_imm]; intro r hr x hx; simp [bytesRows] at hr; obtain ⟨b, _, rfl⟩ := hr; simp at hx; subst hx; exact .int _ _
theorem bytesRows_flat (l : List UInt8) : (bytesRows l).flatten = bytesH l := by induction l with | nil => rfl | cons a l ih => simp [bytesRows, bytesH] at ih ⊢; exact ih
theorem read_yes (PS : PL) (p q u vp vq vu : Nat) (k : Cp) (us : List Bool) (bs : List (List UInt8)) (h : StoreAt PS p q u vp vq vu k us bs) (id : Nat) (hk : us[id]? = some true) (b : List UInt8) (hb : bs[id]? = some b) :
    HCall Try.prog 12 [.ptr p vp 0 0, .int .i64 id] PS fun r PS' => r = .tup [.imm false (bytesRows b), .int .i64 0] ∧ PS' = PS := by
  refine HCall.data (by rw [scoped_tup]; simp [bytesRows_scoped, scoped_int]) (HCall.frz ?_)
  refine enter_12 (by unfold Try.f12; exact rfl) ?_
  simp (config := { maxSteps := 30000 }) only [go_sem, Nat.zero_add, Nat.add_zero, Nat.one_mul, Nat.mul_one, Nat.zero_mul, Nat.sub_zero, Nat.le_refl, Int.toNat_natCast, Int.ofNat_lt, Int.ofNat_le, Int.natCast_nonneg, Int.le_refl, Int.cast_ofNat_Int, Int.natCast_one, Int.reduceToNat, Int.reduceLE, Int.reduceLT, Int.reduceAdd, Int.reduceSub, Int.reduceMul, Int.reduceNeg, Int.toNat_zero, Int.reduceEq, Nat.reduceAdd, Nat.reduceSub, Nat.reduceMul, Nat.reduceLeDiff, Nat.reduceLT, Nat.reduceEqDiff, reduceCtorEq, ↓reduceIte, decide_true, decide_false, h.obj, h.used]
  refine pend_intro ((is_ PS p u vp vu us _ _ _ id h.obj h.used).mono ?_)
  intro r PS' hr
  have hr1 := hr.1
  have hr2 := hr.2
  subst hr1 hr2
  have e : (decide (0 ≤ (id : Int)) && us.getD (id : Int).toNat false) = true := by simp [List.getD, hk]
  rw [e]
  have hlt := (List.getElem?_eq_some_iff.1 hk).1
  have hbl : b.length = 256 := h.all b (List.mem_of_getElem? hb)
  have hbh : (bytesH b).length = 256 := by simp [bytesH, hbl]
  have g1 : ∀ l, getP (PS' ++ l) p = _ := fun l => getP_app l h.obj
  have g2 : ∀ l, getP (PS' ++ l) q = _ := fun l => getP_app l h.blk
  have g3 : ∀ x, getP (PS' ++ [x]) PS'.length = x := fun x => getP_last _ x
  simp (config := { maxSteps := 30000 }) only [go_sem, Nat.zero_add, Nat.add_zero, Nat.one_mul, Nat.mul_one, Nat.zero_mul, Nat.sub_zero, Nat.le_refl, Int.toNat_natCast, Int.ofNat_lt, Int.ofNat_le, Int.natCast_nonneg, Int.le_refl, Int.cast_ofNat_Int, Int.natCast_one, Int.reduceToNat, Int.reduceLE, Int.reduceLT, Int.reduceAdd, Int.reduceSub, Int.reduceMul, Int.reduceNeg, Int.toNat_zero, Int.reduceEq, Nat.reduceAdd, Nat.reduceSub, Nat.reduceMul, Nat.reduceLeDiff, Nat.reduceLT, Nat.reduceEqDiff, reduceCtorEq, ↓reduceIte, decide_true, decide_false, h.obj, h.used, g1, g2, g3, hb, hbh, bools, List.length_replicate]
  have e1 : ((List.take 256 (bytesH b)).map fun y => [y]) = bytesRows b := by rw [List.take_of_length_le (by omega)]; simp [bytesH, bytesRows]
  have e2 : (bytesRows b).length = 256 := by simp [bytesRows, hbl]
  refine ⟨by omega, ?_⟩
  rw [e1, List.take_of_length_le (by omega), hsplice]
  simp only [List.take_zero, List.nil_append, e2, List.drop_replicate, Nat.reduceAdd, Nat.reduceSub, List.replicate_zero, List.append_nil, set_last]
  have hne : ¬ bs.map bytesH = [] := by intro h0; rw [List.map_eq_nil_iff] at h0; rw [h0] at hb; simp at hb
  refine ⟨.inr hne, PS'.length, 0, 1, bytesRows b, false, _, (PS' ++ [Piece.arr 0 1 (bytesRows b) false]).set PS'.length .dead, getP_last _ _, FrzL.tup (.cons (.sl 0 256 _ (by omega)) (.refl _ _ _ _)), FrzPS.only (by simp), ?_, ?_⟩
  · rw [List.drop_zero, List.take_of_length_le (by omega)]
  · rw [set_last]; exact Ext.app _ _
theorem read_no (PS : PL) (p q u vp vq vu : Nat) (k : Cp) (us : List Bool) (bs : List (List UInt8)) (h : StoreAt PS p q u vp vq vu k us bs) (id : Int) (hn : (decide (0 ≤ id) && us.getD id.toNat false) = false) :
    HCall Try.prog 12 [.ptr p vp 0 0, .int .i64 id] PS fun r PS' => r = .tup [.imm true [], .int .i64 6] ∧ PS' = PS := by
  refine enter_12 (by unfold Try.f12; exact rfl) ?_
  simp (config := { maxSteps := 30000 }) only [go_sem, Nat.zero_add, Nat.add_zero, Nat.one_mul, Nat.mul_one, Nat.zero_mul, Nat.sub_zero, Nat.le_refl, Int.toNat_natCast, Int.ofNat_lt, Int.ofNat_le, Int.natCast_nonneg, Int.le_refl, Int.cast_ofNat_Int, Int.natCast_one, Int.reduceToNat, Int.reduceLE, Int.reduceLT, Int.reduceAdd, Int.reduceSub, Int.reduceMul, Int.reduceNeg, Int.toNat_zero, Int.reduceEq, Nat.reduceAdd, Nat.reduceSub, Nat.reduceMul, Nat.reduceLeDiff, Nat.reduceLT, Nat.reduceEqDiff, reduceCtorEq, ↓reduceIte, decide_true, decide_false, h.obj, h.used]
  refine pend_intro ((is_ PS p u vp vu us _ _ _ id h.obj h.used).mono ?_)
  intro r PS' hr
  have hr1 := hr.1
  have hr2 := hr.2
  subst hr1 hr2
  rw [hn]
  simp (config := { maxSteps := 30000 }) only [go_sem, Nat.zero_add, Nat.add_zero, Nat.one_mul, Nat.mul_one, Nat.zero_mul, Nat.sub_zero, Nat.le_refl, Int.toNat_natCast, Int.ofNat_lt, Int.ofNat_le, Int.natCast_nonneg, Int.le_refl, Int.cast_ofNat_Int, Int.natCast_one, Int.reduceToNat, Int.reduceLE, Int.reduceLT, Int.reduceAdd, Int.reduceSub, Int.reduceMul, Int.reduceNeg, Int.toNat_zero, Int.reduceEq, Nat.reduceAdd, Nat.reduceSub, Nat.reduceMul, Nat.reduceLeDiff, Nat.reduceLT, Nat.reduceEqDiff, reduceCtorEq, ↓reduceIte, decide_true, decide_false, h.obj, h.used]
theorem write_no (PS : PL) (p q u vp vq vu : Nat) (k : Cp) (us : List Bool) (bs : List (List UInt8)) (h : StoreAt PS p q u vp vq vu k us bs) (id : Int) (hn : (decide (0 ≤ id) && us.getD id.toNat false) = false) (t : Bool) (l : List UInt8) :
    HCall Try.prog 11 [.ptr p vp 0 0, .int .i64 id, .imm t (bytesRows l)] PS fun r PS' => r = .int .i64 6 ∧ PS' = PS := by
  refine enter_11 (by unfold Try.f11; exact rfl) ?_
  simp (config := { maxSteps := 30000 }) only [go_sem, Nat.zero_add, Nat.add_zero, Nat.one_mul, Nat.mul_one, Nat.zero_mul, Nat.sub_zero, Nat.le_refl, Int.toNat_natCast, Int.ofNat_lt, Int.ofNat_le, Int.natCast_nonneg, Int.le_refl, Int.cast_ofNat_Int, Int.natCast_one, Int.reduceToNat, Int.reduceLE, Int.reduceLT, Int.reduceAdd, Int.reduceSub, Int.reduceMul, Int.reduceNeg, Int.toNat_zero, Int.reduceEq, Nat.reduceAdd, Nat.reduceSub, Nat.reduceMul, Nat.reduceLeDiff, Nat.reduceLT, Nat.reduceEqDiff, reduceCtorEq, ↓reduceIte, decide_true, decide_false, h.obj, h.used]
  refine pend_intro ((is_ PS p u vp vu us _ _ _ id h.obj h.used).mono ?_)
  intro r PS' hr
  have hr1 := hr.1
  have hr2 := hr.2
  subst hr1 hr2
  rw [hn]
  simp (config := { maxSteps := 30000 }) only [go_sem, Nat.zero_add, Nat.add_zero, Nat.one_mul, Nat.mul_one, Nat.zero_mul, Nat.sub_zero, Nat.le_refl, Int.toNat_natCast, Int.ofNat_lt, Int.ofNat_le, Int.natCast_nonneg, Int.le_refl, Int.cast_ofNat_Int, Int.natCast_one, Int.reduceToNat, Int.reduceLE, Int.reduceLT, Int.reduceAdd, Int.reduceSub, Int.reduceMul, Int.reduceNeg, Int.toNat_zero, Int.reduceEq, Nat.reduceAdd, Nat.reduceSub, Nat.reduceMul, Nat.reduceLeDiff, Nat.reduceLT, Nat.reduceEqDiff, reduceCtorEq, ↓reduceIte, decide_true, decide_false, h.obj, h.used]
theorem write_bad (PS : PL) (p q u vp vq vu : Nat) (k : Cp) (us : List Bool) (bs : List (List UInt8)) (h : StoreAt PS p q u vp vq vu k us bs) (id : Nat) (hk : us[id]? = some true) (t : Bool) (l : List UInt8) (hl : l.length ≠ 256) :
    HCall Try.prog 11 [.ptr p vp 0 0, .int .i64 id, .imm t (bytesRows l)] PS fun r PS' => r = .int .i64 1 ∧ PS' = PS := by
  refine enter_11 (by unfold Try.f11; exact rfl) ?_
  simp (config := { maxSteps := 30000 }) only [go_sem, Nat.zero_add, Nat.add_zero, Nat.one_mul, Nat.mul_one, Nat.zero_mul, Nat.sub_zero, Nat.le_refl, Int.toNat_natCast, Int.ofNat_lt, Int.ofNat_le, Int.natCast_nonneg, Int.le_refl, Int.cast_ofNat_Int, Int.natCast_one, Int.reduceToNat, Int.reduceLE, Int.reduceLT, Int.reduceAdd, Int.reduceSub, Int.reduceMul, Int.reduceNeg, Int.toNat_zero, Int.reduceEq, Nat.reduceAdd, Nat.reduceSub, Nat.reduceMul, Nat.reduceLeDiff, Nat.reduceLT, Nat.reduceEqDiff, reduceCtorEq, ↓reduceIte, decide_true, decide_false, h.obj, h.used]
  refine pend_intro ((is_ PS p u vp vu us _ _ _ id h.obj h.used).mono ?_)
  intro r PS' hr
  have hr1 := hr.1
  have hr2 := hr.2
  subst hr1 hr2
  have e : (decide (0 ≤ (id : Int)) && us.getD (id : Int).toNat false) = true := by simp [List.getD, hk]
  rw [e]
  have e2 : ¬ (l.length : Int) = 256 := by omega
  simp (config := { maxSteps := 30000 }) only [go_sem, Nat.zero_add, Nat.add_zero, Nat.one_mul, Nat.mul_one, Nat.zero_mul, Nat.sub_zero, Nat.le_refl, Int.toNat_natCast, Int.ofNat_lt, Int.ofNat_le, Int.natCast_nonneg, Int.le_refl, Int.cast_ofNat_Int, Int.natCast_one, Int.reduceToNat, Int.reduceLE, Int.reduceLT, Int.reduceAdd, Int.reduceSub, Int.reduceMul, Int.reduceNeg, Int.toNat_zero, Int.reduceEq, Nat.reduceAdd, Nat.reduceSub, Nat.reduceMul, Nat.reduceLeDiff, Nat.reduceLT, Nat.reduceEqDiff, reduceCtorEq, ↓reduceIte, decide_true, decide_false, h.obj, h.used, bytesRows_len, e2]
theorem write_yes (PS : PL) (p q u vp vq vu : Nat) (k : Cp) (us : List Bool) (bs : List (List UInt8)) (h : StoreAt PS p q u vp vq vu k us bs) (id : Nat) (hk : us[id]? = some true) (t : Bool) (l : List UInt8) (hl : l.length = 256) :
    HCall Try.prog 11 [.ptr p vp 0 0, .int .i64 id, .imm t (bytesRows l)] PS fun r PS' => r = .int .i64 0 ∧ Ext [q] PS PS' ∧ StoreAt PS' p q u vp vq vu k us (bs.set id l) := by
  refine enter_11 (by unfold Try.f11; exact rfl) ?_
  simp (config := { maxSteps := 30000 }) only [go_sem, Nat.zero_add, Nat.add_zero, Nat.one_mul, Nat.mul_one, Nat.zero_mul, Nat.sub_zero, Nat.le_refl, Int.toNat_natCast, Int.ofNat_lt, Int.ofNat_le, Int.natCast_nonneg, Int.le_refl, Int.cast_ofNat_Int, Int.natCast_one, Int.reduceToNat, Int.reduceLE, Int.reduceLT, Int.reduceAdd, Int.reduceSub, Int.reduceMul, Int.reduceNeg, Int.toNat_zero, Int.reduceEq, Nat.reduceAdd, Nat.reduceSub, Nat.reduceMul, Nat.reduceLeDiff, Nat.reduceLT, Nat.reduceEqDiff, reduceCtorEq, ↓reduceIte, decide_true, decide_false, h.obj, h.used]
  refine pend_intro ((is_ PS p u vp vu us _ _ _ id h.obj h.used).mono ?_)
  intro r PS' hr
  have hr1 := hr.1
  have hr2 := hr.2
  subst hr1 hr2
  have e : (decide (0 ≤ (id : Int)) && us.getD (id : Int).toNat false) = true := by simp [List.getD, hk]
  rw [e]
  have e2 : (l.length : Int) = 256 := by omega
  simp (config := { maxSteps := 30000 }) only [go_sem, Nat.zero_add, Nat.add_zero, Nat.one_mul, Nat.mul_one, Nat.zero_mul, Nat.sub_zero, Nat.le_refl, Int.toNat_natCast, Int.ofNat_lt, Int.ofNat_le, Int.natCast_nonneg, Int.le_refl, Int.cast_ofNat_Int, Int.natCast_one, Int.reduceToNat, Int.reduceLE, Int.reduceLT, Int.reduceAdd, Int.reduceSub, Int.reduceMul, Int.reduceNeg, Int.toNat_zero, Int.reduceEq, Nat.reduceAdd, Nat.reduceSub, Nat.reduceMul, Nat.reduceLeDiff, Nat.reduceLT, Nat.reduceEqDiff, reduceCtorEq, ↓reduceIte, decide_true, decide_false, h.obj, h.used, h.blk, bytesRows_len, e2]
  intro _
  obtain ⟨b, hb⟩ : ∃ b, bs[id]? = some b := ⟨bs[id]'(by have := h.len; have := (List.getElem?_eq_some_iff.1 hk).1; omega), by simp⟩
  have hbl : (bytesH b).length = 256 := by simpa [bytesH] using h.all b (List.mem_of_getElem? hb)
  have e3 : (List.take 256 (bytesRows l)).flatten ++ List.drop (List.take 256 (bytesRows l)).flatten.length (bytesH b) = bytesH l := by
    rw [List.take_of_length_le (by rw [bytesRows_len]; omega), bytesRows_flat, List.drop_eq_nil_of_le (by rw [hbl]; simp [bytesH]; omega), List.append_nil]
  have hne : ¬ bs.map bytesH = [] := by intro h0; rw [List.map_eq_nil_iff] at h0; rw [h0] at hb; simp at hb
  simp only [hb, hsome_some, hbl, e3]
  exact ⟨(List.getElem?_eq_some_iff.1 hk).1, trivial, .inr hne, by omega, Ext.set _ _ _, h.setBlk id l hl⟩
end Go.Proofs.Ytpegkffdhpdciaa
