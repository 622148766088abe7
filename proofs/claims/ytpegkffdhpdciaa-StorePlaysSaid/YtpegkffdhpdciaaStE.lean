import Derived.Test.YtpegkffdhpdciaaStD
namespace Go.Proofs.Ytpegkffdhpdciaa
open Go Go.Eng
set_option maxRecDepth 20000
set_option linter.unusedSimpArgs false
attribute [local irreducible] hvc hops hop hplan hval1 hopD HLoop
/-- The document's store. -/
abbrev Shelf := List (Option (List UInt8))
structure StoreRAt (PS : PL) (p u q vp vu vq : Nat) (m : Shelf) (E : List (List HV)) : Prop where
  obj : getP PS p = .arr vp 2 [[.sl u vu 0 m.length (some m.length), .sl q vq 0 m.length (some m.length)]] false
  used : getP PS u = .arr vu 1 (bools (m.map Option.isSome)) false
  blk : getP PS q = .arr vq 1 E false
  len : E.length = m.length
  one : ∀ (i : Nat) (l : List HV), E[i]? = some l → l.length = 1
  all : ∀ (i : Nat) (b : List UInt8), m[i]? = some (some b) → b.length = 256 ∧ ∃ t, E[i]? = some [.imm t (bytesRows b)]
  few : m.length ≤ 256
  ne : p ≠ q ∧ p ≠ u ∧ q ≠ u
def held (m : Shelf) (id : Int) : Bool := decide (0 ≤ id) && (m.getD id.toNat none).isSome
theorem held_eq (m : Shelf) (id : Int) : (decide (0 ≤ id) && (m.map Option.isSome).getD id.toNat false) = held m id := by
  unfold held
  congr 1
  simp only [List.getD, List.getElem?_map]
  cases m[id.toNat]? <;> rfl
theorem rused_ (PS : PL) (p q u vp vq vu : Nat) (m : Shelf) (E : List (List HV)) (h : StoreRAt PS p u q vp vu vq m E) :
    HCall Try.prog 24 [.ptr p vp 0 0] PS fun r PS' => r = .imm false (ints (usedOf (m.map Option.isSome) m.length)) ∧ PS' = PS := by
  have sc : Scoped PS.length (.imm false (ints (usedOf (m.map Option.isSome) m.length))) := by
    rw [scoped_imm]; intro r hr x hx; simp [ints] at hr; obtain ⟨b, _, rfl⟩ := hr; simp at hx; subst hx; exact .int _ _
  refine HCall.data sc (HCall.frz ?_)
  refine enter_24 (by unfold Try.f24; exact rfl) ?_
  simp (config := { maxSteps := 30000 }) only [go_sem, Nat.zero_add, Nat.add_zero, Nat.one_mul, Nat.mul_one, Nat.zero_mul, Nat.sub_zero, Nat.le_refl, Int.toNat_natCast, Int.ofNat_lt, Int.ofNat_le, Int.natCast_nonneg, Int.le_refl, Int.cast_ofNat_Int, Int.natCast_one, Int.reduceToNat, Int.reduceLE, Int.reduceLT, Int.reduceAdd, Int.reduceSub, Int.reduceMul, Int.reduceNeg, Int.toNat_zero, Int.reduceEq, Nat.reduceAdd, Nat.reduceSub, Nat.reduceMul, Nat.reduceLeDiff, Nat.reduceLT, Nat.reduceEqDiff, reduceCtorEq, ↓reduceIte, decide_true, decide_false, h.obj, h.used]
  have hf := h.few
  refine pend_intro (loop_weak (Weak.nil (d := 3) 1 rfl) ?_)
  refine loop_rule (α := Nat × Nat) [false, false, false, false, false, true, true, true, true, true, true, true, true, true, true, true, true, true, true, true, true, true, true, true, true] (fun a => [(4, .int .i64 a.1), (3, .sl PS.length a.2 0 (usedOf (m.map Option.isSome) a.1).length none)]) (fun a => m.length - a.1) (fun a PS' => a.1 ≤ m.length ∧ PS' = PS ++ [.arr a.2 1 (ints (usedOf (m.map Option.isSome) a.1)) true]) (0, 0) ⟨Nat.zero_le _, rfl⟩ ?_ ?_
  · simp only [go_sem, Nat.zero_add, Nat.add_zero, Nat.one_mul, Nat.mul_one, Nat.zero_mul, Nat.sub_zero, Nat.le_refl, Int.toNat_natCast, Int.ofNat_lt, Int.ofNat_le, Int.natCast_nonneg, Int.le_refl, Int.cast_ofNat_Int, Int.natCast_one, Int.reduceToNat, Int.reduceLE, Int.reduceLT, Int.reduceAdd, Int.reduceSub, Int.reduceMul, Int.reduceNeg, Int.toNat_zero, Int.reduceEq, Nat.reduceAdd, Nat.reduceSub, Nat.reduceMul, Nat.reduceLeDiff, Nat.reduceLT, Nat.reduceEqDiff, reduceCtorEq, ↓reduceIte, decide_true, decide_false, usedOf, Int.natCast_zero]
  · intro a PS' hr
    have hi := hr.1
    have he := hr.2
    obtain ⟨i, ver⟩ := a
    subst he
    clear hr
    simp only at hi
    have g1 := getP_app [.arr ver 1 (ints (usedOf (m.map Option.isSome) i)) true] h.obj
    have g2 := getP_app [.arr ver 1 (ints (usedOf (m.map Option.isSome) i)) true] h.used
    have hul := usedOf_len (m.map Option.isSome) i
    by_cases hlt : i < m.length
    · have hb : m[i]? = some m[i] := by simp [hlt]
      simp (config := { maxSteps := 30000 }) only [go_sem, Nat.zero_add, Nat.add_zero, Nat.one_mul, Nat.mul_one, Nat.zero_mul, Nat.sub_zero, Nat.le_refl, Int.toNat_natCast, Int.ofNat_lt, Int.ofNat_le, Int.natCast_nonneg, Int.le_refl, Int.cast_ofNat_Int, Int.natCast_one, Int.reduceToNat, Int.reduceLE, Int.reduceLT, Int.reduceAdd, Int.reduceSub, Int.reduceMul, Int.reduceNeg, Int.toNat_zero, Int.reduceEq, Nat.reduceAdd, Nat.reduceSub, Nat.reduceMul, Nat.reduceLeDiff, Nat.reduceLT, Nat.reduceEqDiff, reduceCtorEq, ↓reduceIte, decide_true, decide_false, g1, g2, bools, hb, List.getElem?_map, Option.map_some, List.length_map, getP_last, set_last, hlt, ints_len, HV.sl.injEq, HV.int.injEq, List.append_cancel_left_eq, List.cons.injEq, Piece.arr.injEq]
      intro _
      split
      · rename_i ht
        have e : usedOf (m.map Option.isSome) (i + 1) = usedOf (m.map Option.isSome) i ++ [i] := by simp [usedOf, hb, ht]
        refine ⟨by simp, ⟨by omega, by omega⟩, by omega, ⟨i + 1, ver + 1⟩, ?_⟩
        simp only [e]
        exact ⟨by omega, ⟨by omega, trivial, by simp [ints]⟩, ⟨trivial, by simp⟩, by omega⟩
      · rename_i hf
        have e : usedOf (m.map Option.isSome) (i + 1) = usedOf (m.map Option.isSome) i := by simp [usedOf, hb, hf]
        refine ⟨by omega, ⟨i + 1, ver⟩, ?_⟩
        simp only [e]
        exact ⟨by omega, ⟨by omega, trivial, trivial⟩, ⟨trivial, trivial⟩, by omega⟩
    · have hil : i = m.length := by omega
      subst hil
      simp (config := { maxSteps := 30000 }) only [go_sem, Nat.zero_add, Nat.add_zero, Nat.one_mul, Nat.mul_one, Nat.zero_mul, Nat.sub_zero, Nat.le_refl, Int.toNat_natCast, Int.ofNat_lt, Int.ofNat_le, Int.natCast_nonneg, Int.le_refl, Int.cast_ofNat_Int, Int.natCast_one, Int.reduceToNat, Int.reduceLE, Int.reduceLT, Int.reduceAdd, Int.reduceSub, Int.reduceMul, Int.reduceNeg, Int.toNat_zero, Int.reduceEq, Nat.reduceAdd, Nat.reduceSub, Nat.reduceMul, Nat.reduceLeDiff, Nat.reduceLT, Nat.reduceEqDiff, reduceCtorEq, ↓reduceIte, decide_true, decide_false, g1, g2, bools, List.length_map, getP_last, set_last, Int.lt_irrefl]
      intro _
      refine ⟨_, _, _, _, _, _, PS ++ [.dead], getP_last _ _, .sl 0 _ _ (by rw [ints_len]; omega), ⟨by simp, by simp, fun k hk q q' h1 h2 => ?_⟩, ?_, Ext.app _ _⟩
      · rw [List.getElem?_append] at h1 h2
        split at h1
        · rename_i hlt; rw [if_pos hlt] at h2; rw [h1] at h2; cases h2; exact .inl rfl
        · rename_i hge
          have : k - PS.length ≠ 0 := by omega
          simp [this] at h1
      · rw [List.drop_zero, List.take_of_length_le (by rw [ints_len]; omega)]
theorem rleft_ (PS : PL) (p q u vp vq vu : Nat) (m : Shelf) (E : List (List HV)) (h : StoreRAt PS p u q vp vu vq m E) :
    HCall Try.prog 25 [.ptr p vp 0 0] PS fun r PS' => r = .int .i64 (m.length - (usedOf (m.map Option.isSome) m.length).length) ∧ PS' = PS := by
  refine enter_25 (by unfold Try.f25; exact rfl) ?_
  simp (config := { maxSteps := 30000 }) only [go_sem, Nat.zero_add, Nat.add_zero, Nat.one_mul, Nat.mul_one, Nat.zero_mul, Nat.sub_zero, Nat.le_refl, Int.toNat_natCast, Int.ofNat_lt, Int.ofNat_le, Int.natCast_nonneg, Int.le_refl, Int.cast_ofNat_Int, Int.natCast_one, Int.reduceToNat, Int.reduceLE, Int.reduceLT, Int.reduceAdd, Int.reduceSub, Int.reduceMul, Int.reduceNeg, Int.toNat_zero, Int.reduceEq, Nat.reduceAdd, Nat.reduceSub, Nat.reduceMul, Nat.reduceLeDiff, Nat.reduceLT, Nat.reduceEqDiff, reduceCtorEq, ↓reduceIte, decide_true, decide_false, h.obj, h.used]
  refine pend_intro ((rused_ PS p q u vp vq vu m E h).mono ?_)
  intro r PS' hr
  have hr1 := hr.1
  have hr2 := hr.2
  subst hr1 hr2
  have hl := usedOf_len (m.map Option.isSome) m.length
  have hf := h.few
  simp (config := { maxSteps := 30000 }) only [go_sem, Nat.zero_add, Nat.add_zero, Nat.one_mul, Nat.mul_one, Nat.zero_mul, Nat.sub_zero, Nat.le_refl, Int.toNat_natCast, Int.ofNat_lt, Int.ofNat_le, Int.natCast_nonneg, Int.le_refl, Int.cast_ofNat_Int, Int.natCast_one, Int.reduceToNat, Int.reduceLE, Int.reduceLT, Int.reduceAdd, Int.reduceSub, Int.reduceMul, Int.reduceNeg, Int.toNat_zero, Int.reduceEq, Nat.reduceAdd, Nat.reduceSub, Nat.reduceMul, Nat.reduceLeDiff, Nat.reduceLT, Nat.reduceEqDiff, reduceCtorEq, ↓reduceIte, decide_true, decide_false, h.obj, h.used, ints_len]
  omega
theorem there_ (PS : PL) (p q u vp vq vu : Nat) (m : Shelf) (E : List (List HV)) (h : StoreRAt PS p u q vp vu vq m E) (id : Int) :
    HCall Try.prog 28 [.ptr p vp 0 0, .int .i64 id] PS fun r PS' => r = .bool (held m id) ∧ PS' = PS := by
  refine enter_28 (by unfold Try.f28; exact rfl) ?_
  unfold held
  by_cases h0 : 0 ≤ id
  · by_cases h3 : id < m.length
    · have hlt : id.toNat < m.length := by omega
      have hget : m[id.toNat]? = some m[id.toNat] := by simp [hlt]
      have hgd : m.getD id.toNat none = m[id.toNat] := by simp [List.getD, hlt]
      simp (config := { maxSteps := 30000 }) only [go_sem, Nat.zero_add, Nat.add_zero, Nat.one_mul, Nat.mul_one, Nat.zero_mul, Nat.sub_zero, Nat.le_refl, Int.toNat_natCast, Int.ofNat_lt, Int.ofNat_le, Int.natCast_nonneg, Int.le_refl, Int.cast_ofNat_Int, Int.natCast_one, Int.reduceToNat, Int.reduceLE, Int.reduceLT, Int.reduceAdd, Int.reduceSub, Int.reduceMul, Int.reduceNeg, Int.toNat_zero, Int.reduceEq, Nat.reduceAdd, Nat.reduceSub, Nat.reduceMul, Nat.reduceLeDiff, Nat.reduceLT, Nat.reduceEqDiff, reduceCtorEq, ↓reduceIte, decide_true, decide_false, h.obj, h.used, h0, h3, hget, hgd, bools, List.length_map, List.getElem?_map, Option.map_some]
    · have hgd : m.getD id.toNat none = none := by
        have : m.length ≤ id.toNat := by omega
        simp [List.getD, List.getElem?_eq_none this]
      simp (config := { maxSteps := 30000 }) only [go_sem, Nat.zero_add, Nat.add_zero, Nat.one_mul, Nat.mul_one, Nat.zero_mul, Nat.sub_zero, Nat.le_refl, Int.toNat_natCast, Int.ofNat_lt, Int.ofNat_le, Int.natCast_nonneg, Int.le_refl, Int.cast_ofNat_Int, Int.natCast_one, Int.reduceToNat, Int.reduceLE, Int.reduceLT, Int.reduceAdd, Int.reduceSub, Int.reduceMul, Int.reduceNeg, Int.toNat_zero, Int.reduceEq, Nat.reduceAdd, Nat.reduceSub, Nat.reduceMul, Nat.reduceLeDiff, Nat.reduceLT, Nat.reduceEqDiff, reduceCtorEq, ↓reduceIte, decide_true, decide_false, h.obj, h.used, h0, h3, hgd, bools, Option.isSome_none, Bool.and_false]
  · simp (config := { maxSteps := 30000 }) only [go_sem, Nat.zero_add, Nat.add_zero, Nat.one_mul, Nat.mul_one, Nat.zero_mul, Nat.sub_zero, Nat.le_refl, Int.toNat_natCast, Int.ofNat_lt, Int.ofNat_le, Int.natCast_nonneg, Int.le_refl, Int.cast_ofNat_Int, Int.natCast_one, Int.reduceToNat, Int.reduceLE, Int.reduceLT, Int.reduceAdd, Int.reduceSub, Int.reduceMul, Int.reduceNeg, Int.toNat_zero, Int.reduceEq, Nat.reduceAdd, Nat.reduceSub, Nat.reduceMul, Nat.reduceLeDiff, Nat.reduceLT, Nat.reduceEqDiff, reduceCtorEq, ↓reduceIte, decide_true, decide_false, h.obj, h.used, h0, bools, Bool.false_and]
theorem rfree_no (PS : PL) (p q u vp vq vu : Nat) (m : Shelf) (E : List (List HV)) (h : StoreRAt PS p u q vp vu vq m E) (id : Int) (hn : held m id = false) :
    HCall Try.prog 18 [.ptr p vp 0 0, .int .i64 id] PS fun r PS' => r = .int .i64 6 ∧ PS' = PS := by
  refine enter_18 (by unfold Try.f18; exact rfl) ?_
  simp (config := { maxSteps := 30000 }) only [go_sem, Nat.zero_add, Nat.add_zero, Nat.one_mul, Nat.mul_one, Nat.zero_mul, Nat.sub_zero, Nat.le_refl, Int.toNat_natCast, Int.ofNat_lt, Int.ofNat_le, Int.natCast_nonneg, Int.le_refl, Int.cast_ofNat_Int, Int.natCast_one, Int.reduceToNat, Int.reduceLE, Int.reduceLT, Int.reduceAdd, Int.reduceSub, Int.reduceMul, Int.reduceNeg, Int.toNat_zero, Int.reduceEq, Nat.reduceAdd, Nat.reduceSub, Nat.reduceMul, Nat.reduceLeDiff, Nat.reduceLT, Nat.reduceEqDiff, reduceCtorEq, ↓reduceIte, decide_true, decide_false]
  refine pend_intro ((there_ PS p q u vp vq vu m E h id).mono ?_)
  intro r PS' hr
  have hr1 := hr.1
  have hr2 := hr.2
  subst hr1 hr2
  rw [hn]
  simp (config := { maxSteps := 30000 }) only [go_sem, Nat.zero_add, Nat.add_zero, Nat.one_mul, Nat.mul_one, Nat.zero_mul, Nat.sub_zero, Nat.le_refl, Int.toNat_natCast, Int.ofNat_lt, Int.ofNat_le, Int.natCast_nonneg, Int.le_refl, Int.cast_ofNat_Int, Int.natCast_one, Int.reduceToNat, Int.reduceLE, Int.reduceLT, Int.reduceAdd, Int.reduceSub, Int.reduceMul, Int.reduceNeg, Int.toNat_zero, Int.reduceEq, Nat.reduceAdd, Nat.reduceSub, Nat.reduceMul, Nat.reduceLeDiff, Nat.reduceLT, Nat.reduceEqDiff, reduceCtorEq, ↓reduceIte, decide_true, decide_false, h.obj, h.used]
theorem rread_no (PS : PL) (p q u vp vq vu : Nat) (m : Shelf) (E : List (List HV)) (h : StoreRAt PS p u q vp vu vq m E) (id : Int) (hn : held m id = false) :
    HCall Try.prog 20 [.ptr p vp 0 0, .int .i64 id] PS fun r PS' => r = .tup [.imm true [], .int .i64 6] ∧ PS' = PS := by
  refine enter_20 (by unfold Try.f20; exact rfl) ?_
  simp (config := { maxSteps := 30000 }) only [go_sem, Nat.zero_add, Nat.add_zero, Nat.one_mul, Nat.mul_one, Nat.zero_mul, Nat.sub_zero, Nat.le_refl, Int.toNat_natCast, Int.ofNat_lt, Int.ofNat_le, Int.natCast_nonneg, Int.le_refl, Int.cast_ofNat_Int, Int.natCast_one, Int.reduceToNat, Int.reduceLE, Int.reduceLT, Int.reduceAdd, Int.reduceSub, Int.reduceMul, Int.reduceNeg, Int.toNat_zero, Int.reduceEq, Nat.reduceAdd, Nat.reduceSub, Nat.reduceMul, Nat.reduceLeDiff, Nat.reduceLT, Nat.reduceEqDiff, reduceCtorEq, ↓reduceIte, decide_true, decide_false]
  refine pend_intro ((there_ PS p q u vp vq vu m E h id).mono ?_)
  intro r PS' hr
  have hr1 := hr.1
  have hr2 := hr.2
  subst hr1 hr2
  rw [hn]
  simp (config := { maxSteps := 30000 }) only [go_sem, Nat.zero_add, Nat.add_zero, Nat.one_mul, Nat.mul_one, Nat.zero_mul, Nat.sub_zero, Nat.le_refl, Int.toNat_natCast, Int.ofNat_lt, Int.ofNat_le, Int.natCast_nonneg, Int.le_refl, Int.cast_ofNat_Int, Int.natCast_one, Int.reduceToNat, Int.reduceLE, Int.reduceLT, Int.reduceAdd, Int.reduceSub, Int.reduceMul, Int.reduceNeg, Int.toNat_zero, Int.reduceEq, Nat.reduceAdd, Nat.reduceSub, Nat.reduceMul, Nat.reduceLeDiff, Nat.reduceLT, Nat.reduceEqDiff, reduceCtorEq, ↓reduceIte, decide_true, decide_false, h.obj, h.used]
theorem rwrite_no (PS : PL) (p q u vp vq vu : Nat) (m : Shelf) (E : List (List HV)) (h : StoreRAt PS p u q vp vu vq m E) (id : Int) (hn : held m id = false) (t : Bool) (l : List UInt8) :
    HCall Try.prog 19 [.ptr p vp 0 0, .int .i64 id, .imm t (bytesRows l)] PS fun r PS' => r = .int .i64 6 ∧ PS' = PS := by
  refine enter_19 (by unfold Try.f19; exact rfl) ?_
  simp (config := { maxSteps := 30000 }) only [go_sem, Nat.zero_add, Nat.add_zero, Nat.one_mul, Nat.mul_one, Nat.zero_mul, Nat.sub_zero, Nat.le_refl, Int.toNat_natCast, Int.ofNat_lt, Int.ofNat_le, Int.natCast_nonneg, Int.le_refl, Int.cast_ofNat_Int, Int.natCast_one, Int.reduceToNat, Int.reduceLE, Int.reduceLT, Int.reduceAdd, Int.reduceSub, Int.reduceMul, Int.reduceNeg, Int.toNat_zero, Int.reduceEq, Nat.reduceAdd, Nat.reduceSub, Nat.reduceMul, Nat.reduceLeDiff, Nat.reduceLT, Nat.reduceEqDiff, reduceCtorEq, ↓reduceIte, decide_true, decide_false]
  refine pend_intro ((there_ PS p q u vp vq vu m E h id).mono ?_)
  intro r PS' hr
  have hr1 := hr.1
  have hr2 := hr.2
  subst hr1 hr2
  rw [hn]
  simp (config := { maxSteps := 30000 }) only [go_sem, Nat.zero_add, Nat.add_zero, Nat.one_mul, Nat.mul_one, Nat.zero_mul, Nat.sub_zero, Nat.le_refl, Int.toNat_natCast, Int.ofNat_lt, Int.ofNat_le, Int.natCast_nonneg, Int.le_refl, Int.cast_ofNat_Int, Int.natCast_one, Int.reduceToNat, Int.reduceLE, Int.reduceLT, Int.reduceAdd, Int.reduceSub, Int.reduceMul, Int.reduceNeg, Int.toNat_zero, Int.reduceEq, Nat.reduceAdd, Nat.reduceSub, Nat.reduceMul, Nat.reduceLeDiff, Nat.reduceLT, Nat.reduceEqDiff, reduceCtorEq, ↓reduceIte, decide_true, decide_false, h.obj, h.used]
theorem held_nat {m : Shelf} {id : Nat} {b : List UInt8} (h : m[id]? = some (some b)) : held m (id : Int) = true := by simp [held, List.getD, h]
theorem rwrite_bad (PS : PL) (p q u vp vq vu : Nat) (m : Shelf) (E : List (List HV)) (h : StoreRAt PS p u q vp vu vq m E) (id : Nat) (b : List UInt8) (hk : m[id]? = some (some b)) (t : Bool) (l : List UInt8) (hl : l.length ≠ 256) :
    HCall Try.prog 19 [.ptr p vp 0 0, .int .i64 id, .imm t (bytesRows l)] PS fun r PS' => r = .int .i64 1 ∧ PS' = PS := by
  refine enter_19 (by unfold Try.f19; exact rfl) ?_
  simp (config := { maxSteps := 30000 }) only [go_sem, Nat.zero_add, Nat.add_zero, Nat.one_mul, Nat.mul_one, Nat.zero_mul, Nat.sub_zero, Nat.le_refl, Int.toNat_natCast, Int.ofNat_lt, Int.ofNat_le, Int.natCast_nonneg, Int.le_refl, Int.cast_ofNat_Int, Int.natCast_one, Int.reduceToNat, Int.reduceLE, Int.reduceLT, Int.reduceAdd, Int.reduceSub, Int.reduceMul, Int.reduceNeg, Int.toNat_zero, Int.reduceEq, Nat.reduceAdd, Nat.reduceSub, Nat.reduceMul, Nat.reduceLeDiff, Nat.reduceLT, Nat.reduceEqDiff, reduceCtorEq, ↓reduceIte, decide_true, decide_false]
  refine pend_intro ((there_ PS p q u vp vq vu m E h id).mono ?_)
  intro r PS' hr
  have hr1 := hr.1
  have hr2 := hr.2
  subst hr1 hr2
  rw [held_nat hk]
  have e2 : ¬ (l.length : Int) = 256 := by omega
  simp (config := { maxSteps := 30000 }) only [go_sem, Nat.zero_add, Nat.add_zero, Nat.one_mul, Nat.mul_one, Nat.zero_mul, Nat.sub_zero, Nat.le_refl, Int.toNat_natCast, Int.ofNat_lt, Int.ofNat_le, Int.natCast_nonneg, Int.le_refl, Int.cast_ofNat_Int, Int.natCast_one, Int.reduceToNat, Int.reduceLE, Int.reduceLT, Int.reduceAdd, Int.reduceSub, Int.reduceMul, Int.reduceNeg, Int.toNat_zero, Int.reduceEq, Nat.reduceAdd, Nat.reduceSub, Nat.reduceMul, Nat.reduceLeDiff, Nat.reduceLT, Nat.reduceEqDiff, reduceCtorEq, ↓reduceIte, decide_true, decide_false, h.obj, h.used, bytesRows_len, e2]
theorem StoreRAt.setUsed {PS : PL} {p q u vp vq vu : Nat} {m : Shelf} {E : List (List HV)} (h : StoreRAt PS p u q vp vu vq m E) (id : Nat) (o : Option (List UInt8)) (ho : ∀ b, o = some b → b.length = 256 ∧ ∃ t, E[id]? = some [.imm t (bytesRows b)]) :
    StoreRAt (PS.set u (.arr vu 1 ((bools (m.map Option.isSome)).set id [.bool o.isSome]) false)) p u q vp vu vq (m.set id o) E := by
  have e : (bools (m.map Option.isSome)).set id [HV.bool o.isSome] = bools ((m.set id o).map Option.isSome) := by simp [bools, List.map_set]
  obtain ⟨h1, h2, h3, h4, h4', h5, h6, h7, h8, h9⟩ := h
  refine ⟨by rw [getP_set_ne _ (Ne.symm h8), h1]; simp, by rw [getP_set_eq _ h2, e], by rw [getP_set_ne _ (Ne.symm h9), h3], by simp [h4], h4', fun i b hb => ?_, by simpa using h6, h7, h8, h9⟩
  rw [List.getElem?_set] at hb
  split at hb
  · rename_i he
    subst he
    split at hb
    · exact ho b (by simpa using hb)
    · simp at hb
  · exact h5 i b hb
theorem rfree_yes (PS : PL) (p q u vp vq vu : Nat) (m : Shelf) (E : List (List HV)) (h : StoreRAt PS p u q vp vu vq m E) (id : Nat) (b : List UInt8) (hk : m[id]? = some (some b)) :
    HCall Try.prog 18 [.ptr p vp 0 0, .int .i64 id] PS fun r PS' => r = .int .i64 0 ∧ Ext [u] PS PS' ∧ StoreRAt PS' p u q vp vu vq (m.set id none) E := by
  refine enter_18 (by unfold Try.f18; exact rfl) ?_
  simp (config := { maxSteps := 30000 }) only [go_sem, Nat.zero_add, Nat.add_zero, Nat.one_mul, Nat.mul_one, Nat.zero_mul, Nat.sub_zero, Nat.le_refl, Int.toNat_natCast, Int.ofNat_lt, Int.ofNat_le, Int.natCast_nonneg, Int.le_refl, Int.cast_ofNat_Int, Int.natCast_one, Int.reduceToNat, Int.reduceLE, Int.reduceLT, Int.reduceAdd, Int.reduceSub, Int.reduceMul, Int.reduceNeg, Int.toNat_zero, Int.reduceEq, Nat.reduceAdd, Nat.reduceSub, Nat.reduceMul, Nat.reduceLeDiff, Nat.reduceLT, Nat.reduceEqDiff, reduceCtorEq, ↓reduceIte, decide_true, decide_false]
  refine pend_intro ((there_ PS p q u vp vq vu m E h id).mono ?_)
  intro r PS' hr
  have hr1 := hr.1
  have hr2 := hr.2
  subst hr1 hr2
  rw [held_nat hk]
  have hlt := (List.getElem?_eq_some_iff.1 hk).1
  simp (config := { maxSteps := 30000 }) only [go_sem, Nat.zero_add, Nat.add_zero, Nat.one_mul, Nat.mul_one, Nat.zero_mul, Nat.sub_zero, Nat.le_refl, Int.toNat_natCast, Int.ofNat_lt, Int.ofNat_le, Int.natCast_nonneg, Int.le_refl, Int.cast_ofNat_Int, Int.natCast_one, Int.reduceToNat, Int.reduceLE, Int.reduceLT, Int.reduceAdd, Int.reduceSub, Int.reduceMul, Int.reduceNeg, Int.toNat_zero, Int.reduceEq, Nat.reduceAdd, Nat.reduceSub, Nat.reduceMul, Nat.reduceLeDiff, Nat.reduceLT, Nat.reduceEqDiff, reduceCtorEq, ↓reduceIte, decide_true, decide_false, h.obj, h.used, bools, hk, List.getElem?_map, Option.map_some]
  exact ⟨by omega, Ext.set _ _ _, h.setUsed id none (by simp)⟩
end Go.Proofs.Ytpegkffdhpdciaa
