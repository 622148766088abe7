import Derived.Test.YtpegkffdhpdciaaStE
namespace Go.Proofs.Ytpegkffdhpdciaa
open Go Go.Eng
set_option maxRecDepth 20000
set_option linter.unusedSimpArgs false
attribute [local irreducible] hvc hops hop hplan hval1 hopD HLoop
theorem StoreRAt.app {PS : PL} {p q u vp vq vu : Nat} {m : Shelf} {E : List (List HV)} (h : StoreRAt PS p u q vp vu vq m E) (l : PL) : StoreRAt (PS ++ l) p u q vp vu vq m E :=
  ⟨getP_app l h.obj, getP_app l h.used, getP_app l h.blk, h.len, h.one, h.all, h.few, h.ne⟩
theorem set_row {E : List (List HV)} (id : Nat) (t : Bool) (l : List UInt8) (h1 : ∀ (i : Nat) (l : List HV), E[i]? = some l → l.length = 1) : ∀ (i : Nat) (r : List HV), (E.set id [.imm t (bytesRows l)])[i]? = some r → r.length = 1 := by
  intro i r hr
  rw [List.getElem?_set] at hr
  split at hr
  · split at hr
    · cases hr; rfl
    · cases hr
  · exact h1 i r hr
theorem StoreRAt.setBlk {PS : PL} {p q u vp vq vu : Nat} {m : Shelf} {E : List (List HV)} (h : StoreRAt PS p u q vp vu vq m E) (id : Nat) (b : List UInt8) (hk : m[id]? = some (some b)) (t : Bool) (l : List UInt8) (hl : l.length = 256) :
    StoreRAt (PS.set q (.arr vq 1 (E.set id [.imm t (bytesRows l)]) false)) p u q vp vu vq (m.set id (some l)) (E.set id [.imm t (bytesRows l)]) := by
  obtain ⟨h1, h2, h3, h4, h4', h5, h6, h7, h8, h9⟩ := h
  have hid := (List.getElem?_eq_some_iff.1 hk).1
  have e : (m.set id (some l)).map Option.isSome = m.map Option.isSome := by
    refine List.ext_getElem? fun i => ?_
    rw [List.getElem?_map, List.getElem?_map]
    by_cases he : id = i
    · subst he; rw [List.getElem?_set_self hid, hk]; rfl
    · rw [List.getElem?_set_ne he]
  refine ⟨by rw [getP_set_ne _ (Ne.symm h7), h1]; simp, by rw [getP_set_ne _ h9, h2, e], getP_set_eq _ h3, by simp [h4], set_row id t l h4', fun i c hc => ?_, by simpa using h6, h7, h8, h9⟩
  rw [List.getElem?_set] at hc ⊢
  split at hc
  · rename_i he
    subst he
    cases hc
    exact ⟨hl, t, by simp [h4, hid]⟩
  · rename_i he
    rw [if_neg he]
    exact h5 i c hc
theorem StoreRAt.setNew {PS : PL} {p q u vp vq vu : Nat} {m : Shelf} {E : List (List HV)} (h : StoreRAt PS p u q vp vu vq m E) (id : Nat) (hk : m[id]? = some none) (t : Bool) (l : List UInt8) :
    StoreRAt (PS.set q (.arr vq 1 (E.set id [.imm t (bytesRows l)]) false)) p u q vp vu vq m (E.set id [.imm t (bytesRows l)]) := by
  obtain ⟨h1, h2, h3, h4, h4', h5, h6, h7, h8, h9⟩ := h
  refine ⟨by rw [getP_set_ne _ (Ne.symm h7), h1], by rw [getP_set_ne _ h9, h2], getP_set_eq _ h3, by simp [h4], set_row id t l h4', fun i c hc => ?_, h6, h7, h8, h9⟩
  have he : id ≠ i := by rintro rfl; rw [hk] at hc; cases hc
  rw [List.getElem?_set_ne he]
  exact h5 i c hc
theorem rread_yes (PS : PL) (p q u vp vq vu : Nat) (m : Shelf) (E : List (List HV)) (h : StoreRAt PS p u q vp vu vq m E) (id : Nat) (b : List UInt8) (hk : m[id]? = some (some b)) :
    HCall Try.prog 20 [.ptr p vp 0 0, .int .i64 id] PS fun r PS' => r = .tup [.imm false (bytesRows b), .int .i64 0] ∧ PS' = PS := by
  refine HCall.data (by rw [scoped_tup]; simp [bytesRows_scoped, scoped_int]) (HCall.frz ?_)
  refine enter_20 (by unfold Try.f20; exact rfl) ?_
  simp (config := { maxSteps := 30000 }) only [go_sem, Nat.zero_add, Nat.add_zero, Nat.one_mul, Nat.mul_one, Nat.zero_mul, Nat.sub_zero, Nat.le_refl, Int.toNat_natCast, Int.ofNat_lt, Int.ofNat_le, Int.natCast_nonneg, Int.le_refl, Int.cast_ofNat_Int, Int.natCast_one, Int.reduceToNat, Int.reduceLE, Int.reduceLT, Int.reduceAdd, Int.reduceSub, Int.reduceMul, Int.reduceNeg, Int.toNat_zero, Int.reduceEq, Nat.reduceAdd, Nat.reduceSub, Nat.reduceMul, Nat.reduceLeDiff, Nat.reduceLT, Nat.reduceEqDiff, reduceCtorEq, ↓reduceIte, decide_true, decide_false]
  refine pend_intro ((there_ PS p q u vp vq vu m E h id).mono ?_)
  intro r PS' hr
  have hr1 := hr.1
  have hr2 := hr.2
  subst hr1 hr2
  rw [held_nat hk]
  obtain ⟨hbl, t, ht⟩ := h.all id b hk
  have hlt := (List.getElem?_eq_some_iff.1 hk).1
  simp (config := { maxSteps := 30000 }) only [go_sem, Nat.zero_add, Nat.add_zero, Nat.one_mul, Nat.mul_one, Nat.zero_mul, Nat.sub_zero, Nat.le_refl, Int.toNat_natCast, Int.ofNat_lt, Int.ofNat_le, Int.natCast_nonneg, Int.le_refl, Int.cast_ofNat_Int, Int.natCast_one, Int.reduceToNat, Int.reduceLE, Int.reduceLT, Int.reduceAdd, Int.reduceSub, Int.reduceMul, Int.reduceNeg, Int.toNat_zero, Int.reduceEq, Nat.reduceAdd, Nat.reduceSub, Nat.reduceMul, Nat.reduceLeDiff, Nat.reduceLT, Nat.reduceEqDiff, reduceCtorEq, ↓reduceIte, decide_true, decide_false, h.obj, h.blk, ht]
  refine ⟨hlt, by simp, by rw [bytesRows_len]; omega, PS'.length, 0, 1, bytesRows b, true, _, PS' ++ [.dead], getP_last _ _, FrzL.tup (.cons (.sl 0 _ _ (by omega)) (.refl _ _ _ _)), FrzPS.last0, ?_, Ext.app _ _⟩
  rw [List.drop_zero, List.take_of_length_le (Nat.le_refl _)]
theorem rwrite_yes (PS : PL) (p q u vp vq vu : Nat) (m : Shelf) (E : List (List HV)) (h : StoreRAt PS p u q vp vu vq m E) (id : Nat) (b : List UInt8) (hk : m[id]? = some (some b)) (t : Bool) (l : List UInt8) (hl : l.length = 256) :
    HCall Try.prog 19 [.ptr p vp 0 0, .int .i64 id, .imm t (bytesRows l)] PS fun r PS' => r = .int .i64 0 ∧ Ext [q] PS PS' ∧ ∃ E', StoreRAt PS' p u q vp vu vq (m.set id (some l)) E' := by
  refine HCall.frz ?_
  refine enter_19 (by unfold Try.f19; exact rfl) ?_
  simp (config := { maxSteps := 30000 }) only [go_sem, Nat.zero_add, Nat.add_zero, Nat.one_mul, Nat.mul_one, Nat.zero_mul, Nat.sub_zero, Nat.le_refl, Int.toNat_natCast, Int.ofNat_lt, Int.ofNat_le, Int.natCast_nonneg, Int.le_refl, Int.cast_ofNat_Int, Int.natCast_one, Int.reduceToNat, Int.reduceLE, Int.reduceLT, Int.reduceAdd, Int.reduceSub, Int.reduceMul, Int.reduceNeg, Int.toNat_zero, Int.reduceEq, Nat.reduceAdd, Nat.reduceSub, Nat.reduceMul, Nat.reduceLeDiff, Nat.reduceLT, Nat.reduceEqDiff, reduceCtorEq, ↓reduceIte, decide_true, decide_false]
  refine pend_intro ((there_ PS p q u vp vq vu m E h id).mono ?_)
  intro r PS' hr
  have hr1 := hr.1
  have hr2 := hr.2
  subst hr1 hr2
  rw [held_nat hk]
  obtain ⟨hbl, t', ht⟩ := h.all id b hk
  have hlt := (List.getElem?_eq_some_iff.1 hk).1
  have e2 : (l.length : Int) = 256 := by omega
  have g1 : ∀ x, getP (PS' ++ [x]) p = _ := fun x => getP_app [x] h.obj
  have g2 : ∀ x, getP (PS' ++ [x]) q = _ := fun x => getP_app [x] h.blk
  simp (config := { maxSteps := 30000 }) only [go_sem, Nat.zero_add, Nat.add_zero, Nat.one_mul, Nat.mul_one, Nat.zero_mul, Nat.sub_zero, Nat.le_refl, Int.toNat_natCast, Int.ofNat_lt, Int.ofNat_le, Int.natCast_nonneg, Int.le_refl, Int.cast_ofNat_Int, Int.natCast_one, Int.reduceToNat, Int.reduceLE, Int.reduceLT, Int.reduceAdd, Int.reduceSub, Int.reduceMul, Int.reduceNeg, Int.toNat_zero, Int.reduceEq, Nat.reduceAdd, Nat.reduceSub, Nat.reduceMul, Nat.reduceLeDiff, Nat.reduceLT, Nat.reduceEqDiff, reduceCtorEq, ↓reduceIte, decide_true, decide_false, h.obj, h.blk, g1, g2, ht, bytesRows_len, e2]
  have hql := getP_lt h.blk
  refine fun _ => ⟨by simp, by omega, hlt, PS'.length, 0, 1, bytesRows l, true, _, PS'.set q (.arr vq 1 (E.set id [.imm false (bytesRows l)]) false) ++ [.dead], ?_, .same _, FrzPS.last hql ?_, rfl, ?_, _, (h.setBlk id b hk false l hl).app _⟩
  · rw [getP_set_ne _ (by omega)]; exact getP_last _ _
  · refine FrzP.row ?_
    have e3 : bytesRows l = ((bytesRows l).drop 0).take l.length := by rw [List.drop_zero, List.take_of_length_le (by rw [bytesRows_len]; exact Nat.le_refl _)]
    refine FrzL.cons ?_ (.nil _ _ _)
    conv => rhs; rw [e3]
    exact .sl 0 l.length _ (by rw [bytesRows_len]; omega)
  · exact (Ext.set PS' q _).trans (Ext.app _ _)
theorem ralloc_full (PS : PL) (p q u vp vq vu : Nat) (m : Shelf) (E : List (List HV)) (h : StoreRAt PS p u q vp vu vq m E) (hn : ∀ i, i < m.length → ∃ b, m[i]? = some (some b)) :
    HCall Try.prog 17 [.ptr p vp 0 0] PS fun r PS' => r = .tup [.int .i64 0, .int .i64 3] ∧ PS' = PS := by
  refine enter_17 (by unfold Try.f17; exact rfl) ?_
  simp (config := { maxSteps := 30000 }) only [go_sem, Nat.zero_add, Nat.add_zero, Nat.one_mul, Nat.mul_one, Nat.zero_mul, Nat.sub_zero, Nat.le_refl, Int.toNat_natCast, Int.ofNat_lt, Int.ofNat_le, Int.natCast_nonneg, Int.le_refl, Int.cast_ofNat_Int, Int.natCast_one, Int.reduceToNat, Int.reduceLE, Int.reduceLT, Int.reduceAdd, Int.reduceSub, Int.reduceMul, Int.reduceNeg, Int.toNat_zero, Int.reduceEq, Nat.reduceAdd, Nat.reduceSub, Nat.reduceMul, Nat.reduceLeDiff, Nat.reduceLT, Nat.reduceEqDiff, reduceCtorEq, ↓reduceIte, decide_true, decide_false, h.obj, h.used]
  have hf := h.few
  refine pend_intro (loop_rule (α := Nat) [false, false, true, true, false, true, true, true, true, true, true, true, true, true, true, true, true, true, true, true, true, true, true, true, true, true, true, true, true, true, true, true, true, true, true, true] (fun i => [(4, .int .i64 i)]) (fun i => m.length - i) (fun i PS' => i ≤ m.length ∧ PS' = PS) 0 ⟨Nat.zero_le _, rfl⟩ ?_ ?_)
  · simp only [go_sem, Nat.zero_add, Nat.add_zero, Nat.one_mul, Nat.mul_one, Nat.zero_mul, Nat.sub_zero, Nat.le_refl, Int.toNat_natCast, Int.ofNat_lt, Int.ofNat_le, Int.natCast_nonneg, Int.le_refl, Int.cast_ofNat_Int, Int.natCast_one, Int.reduceToNat, Int.reduceLE, Int.reduceLT, Int.reduceAdd, Int.reduceSub, Int.reduceMul, Int.reduceNeg, Int.toNat_zero, Int.reduceEq, Nat.reduceAdd, Nat.reduceSub, Nat.reduceMul, Nat.reduceLeDiff, Nat.reduceLT, Nat.reduceEqDiff, reduceCtorEq, ↓reduceIte, decide_true, decide_false, Int.natCast_zero]
  · intro i PS' hr
    have hi := hr.1
    have he := hr.2
    subst he
    by_cases hlt : i < m.length
    · obtain ⟨b, hb⟩ := hn i hlt
      simp (config := { maxSteps := 30000 }) only [go_sem, Nat.zero_add, Nat.add_zero, Nat.one_mul, Nat.mul_one, Nat.zero_mul, Nat.sub_zero, Nat.le_refl, Int.toNat_natCast, Int.ofNat_lt, Int.ofNat_le, Int.natCast_nonneg, Int.le_refl, Int.cast_ofNat_Int, Int.natCast_one, Int.reduceToNat, Int.reduceLE, Int.reduceLT, Int.reduceAdd, Int.reduceSub, Int.reduceMul, Int.reduceNeg, Int.toNat_zero, Int.reduceEq, Nat.reduceAdd, Nat.reduceSub, Nat.reduceMul, Nat.reduceLeDiff, Nat.reduceLT, Nat.reduceEqDiff, reduceCtorEq, ↓reduceIte, decide_true, decide_false, h.obj, h.used, bools, hb, List.getElem?_map, Option.map_some, Option.isSome_some, List.length_map, hlt, HV.int.injEq]
      exact fun _ => ⟨by omega, i + 1, by omega, by omega, by simp⟩
    · simp (config := { maxSteps := 30000 }) only [go_sem, Nat.zero_add, Nat.add_zero, Nat.one_mul, Nat.mul_one, Nat.zero_mul, Nat.sub_zero, Nat.le_refl, Int.toNat_natCast, Int.ofNat_lt, Int.ofNat_le, Int.natCast_nonneg, Int.le_refl, Int.cast_ofNat_Int, Int.natCast_one, Int.reduceToNat, Int.reduceLE, Int.reduceLT, Int.reduceAdd, Int.reduceSub, Int.reduceMul, Int.reduceNeg, Int.toNat_zero, Int.reduceEq, Nat.reduceAdd, Nat.reduceSub, Nat.reduceMul, Nat.reduceLeDiff, Nat.reduceLT, Nat.reduceEqDiff, reduceCtorEq, ↓reduceIte, decide_true, decide_false, h.obj, h.used, bools, hlt, List.length_map]
theorem ralloc_some (PS : PL) (p q u vp vq vu : Nat) (m : Shelf) (E : List (List HV)) (h : StoreRAt PS p u q vp vu vq m E) (k : Nat) (hk : m[k]? = some none) (hn : ∀ i, i < k → ∃ b, m[i]? = some (some b)) :
    HCall Try.prog 17 [.ptr p vp 0 0] PS fun r PS' => r = .tup [.int .i64 k, .int .i64 0] ∧ Ext [u, q] PS PS' ∧ ∃ E', StoreRAt PS' p u q vp vu vq (m.set k (some (List.replicate 256 0))) E' := by
  refine HCall.frz ?_
  refine enter_17 (by unfold Try.f17; exact rfl) ?_
  simp (config := { maxSteps := 30000 }) only [go_sem, Nat.zero_add, Nat.add_zero, Nat.one_mul, Nat.mul_one, Nat.zero_mul, Nat.sub_zero, Nat.le_refl, Int.toNat_natCast, Int.ofNat_lt, Int.ofNat_le, Int.natCast_nonneg, Int.le_refl, Int.cast_ofNat_Int, Int.natCast_one, Int.reduceToNat, Int.reduceLE, Int.reduceLT, Int.reduceAdd, Int.reduceSub, Int.reduceMul, Int.reduceNeg, Int.toNat_zero, Int.reduceEq, Nat.reduceAdd, Nat.reduceSub, Nat.reduceMul, Nat.reduceLeDiff, Nat.reduceLT, Nat.reduceEqDiff, reduceCtorEq, ↓reduceIte, decide_true, decide_false, h.obj, h.used]
  have hf := h.few
  have hkl := (List.getElem?_eq_some_iff.1 hk).1
  refine pend_intro (loop_rule (α := Nat) [false, false, true, true, false, true, true, true, true, true, true, true, true, true, true, true, true, true, true, true, true, true, true, true, true, true, true, true, true, true, true, true, true, true, true, true] (fun i => [(4, .int .i64 i)]) (fun i => m.length - i) (fun i PS' => i ≤ k ∧ PS' = PS) 0 ⟨Nat.zero_le _, rfl⟩ ?_ ?_)
  · simp only [go_sem, Nat.zero_add, Nat.add_zero, Nat.one_mul, Nat.mul_one, Nat.zero_mul, Nat.sub_zero, Nat.le_refl, Int.toNat_natCast, Int.ofNat_lt, Int.ofNat_le, Int.natCast_nonneg, Int.le_refl, Int.cast_ofNat_Int, Int.natCast_one, Int.reduceToNat, Int.reduceLE, Int.reduceLT, Int.reduceAdd, Int.reduceSub, Int.reduceMul, Int.reduceNeg, Int.toNat_zero, Int.reduceEq, Nat.reduceAdd, Nat.reduceSub, Nat.reduceMul, Nat.reduceLeDiff, Nat.reduceLT, Nat.reduceEqDiff, reduceCtorEq, ↓reduceIte, decide_true, decide_false, Int.natCast_zero]
  · intro i PS' hr
    have hi := hr.1
    have he := hr.2
    subst he
    have hlt : i < m.length := by omega
    by_cases hik : i < k
    · obtain ⟨b, hb⟩ := hn i hik
      simp (config := { maxSteps := 30000 }) only [go_sem, Nat.zero_add, Nat.add_zero, Nat.one_mul, Nat.mul_one, Nat.zero_mul, Nat.sub_zero, Nat.le_refl, Int.toNat_natCast, Int.ofNat_lt, Int.ofNat_le, Int.natCast_nonneg, Int.le_refl, Int.cast_ofNat_Int, Int.natCast_one, Int.reduceToNat, Int.reduceLE, Int.reduceLT, Int.reduceAdd, Int.reduceSub, Int.reduceMul, Int.reduceNeg, Int.toNat_zero, Int.reduceEq, Nat.reduceAdd, Nat.reduceSub, Nat.reduceMul, Nat.reduceLeDiff, Nat.reduceLT, Nat.reduceEqDiff, reduceCtorEq, ↓reduceIte, decide_true, decide_false, h.obj, h.used, bools, hb, List.getElem?_map, Option.map_some, Option.isSome_some, List.length_map, hlt, HV.int.injEq]
      exact fun _ => ⟨by omega, i + 1, by omega, by omega, by simp⟩
    · have hik : i = k := by omega
      subst hik
      have n1 := h.ne.1
      have n2 := h.ne.2.1
      have n3 := h.ne.2.2
      have hq : ∀ Q, getP (PS'.set u Q) q = _ := fun Q => (getP_set_ne Q (Ne.symm n3)).trans h.blk
      have hp : ∀ Q, getP (PS'.set u Q) p = _ := fun Q => (getP_set_ne Q (Ne.symm n2)).trans h.obj
      have hq' : ∀ Q x, getP (PS'.set u Q ++ [x]) q = _ := fun Q x => getP_app [x] (hq Q)
      have hp' : ∀ Q x, getP (PS'.set u Q ++ [x]) p = _ := fun Q x => getP_app [x] (hp Q)
      simp (config := { maxSteps := 30000 }) only [go_sem, Nat.zero_add, Nat.add_zero, Nat.one_mul, Nat.mul_one, Nat.zero_mul, Nat.sub_zero, Nat.le_refl, Int.toNat_natCast, Int.ofNat_lt, Int.ofNat_le, Int.natCast_nonneg, Int.le_refl, Int.cast_ofNat_Int, Int.natCast_one, Int.reduceToNat, Int.reduceLE, Int.reduceLT, Int.reduceAdd, Int.reduceSub, Int.reduceMul, Int.reduceNeg, Int.toNat_zero, Int.reduceEq, Nat.reduceAdd, Nat.reduceSub, Nat.reduceMul, Nat.reduceLeDiff, Nat.reduceLT, Nat.reduceEqDiff, reduceCtorEq, ↓reduceIte, decide_true, decide_false, h.obj, h.used, h.blk, hq, hp, hq', hp', bools, hk, List.getElem?_map, Option.map_some, Option.isSome_none, List.length_map, List.length_set, List.length_replicate, hlt, HV.int.injEq]
      obtain ⟨l0, hl0⟩ := get_of_lt (show i < E.length by have := h.len; omega)
      have h10 := h.one i l0 hl0
      have hd0 : List.drop 1 l0 = [] := List.drop_eq_nil_of_le (by omega)
      simp only [hl0, hsome_some, h10, hd0]
      have hql := getP_lt h.blk
      have hrep : List.replicate 256 [HV.int IntKind.u8 0] = bytesRows (List.replicate 256 0) := by simp [bytesRows]
      have hset : (PS'.set u (.arr vu 1 ((List.map (fun b => [HV.bool b]) (List.map Option.isSome m)).set i [HV.bool true]) false)).length = PS'.length := by simp
      have hs1 := h.setNew i hk false (List.replicate 256 0)
      have hs2 := hs1.setUsed i (some (List.replicate 256 0)) (fun b hb => by
        cases hb
        exact ⟨by simp, false, by simp [h.len, hlt]⟩)
      rw [List.set_comm _ _ n3] at hs2
      rw [hrep]
      refine fun _ => ⟨trivial, by omega, PS'.length, 0, 1, bytesRows (List.replicate 256 0), false, _, (PS'.set u (.arr vu 1 ((List.map (fun b => [HV.bool b]) (List.map Option.isSome m)).set i [HV.bool true]) false)).set q (.arr vq 1 (E.set i [.imm false (bytesRows (List.replicate 256 0))]) false) ++ [.dead], ?_, .same _, ?_, rfl, ?_, _, hs2.app _⟩
      · rw [getP_set_ne _ (by omega), ← hset]; exact getP_last _ _
      · conv => arg 1; rw [← hset]
        conv in (HV.sl PS'.length _ _ _ _) => rw [← hset]
        refine FrzPS.last (by simpa using hql) (FrzP.row (FrzL.cons ?_ (.nil _ _ _)))
        have e3 : bytesRows (List.replicate 256 0) = ((bytesRows (List.replicate 256 0)).drop 0).take 256 := by rw [List.drop_zero, List.take_of_length_le (by rw [bytesRows_len]; simp)]
        conv => rhs; rw [e3]
        exact .sl 0 256 _ (by rw [bytesRows_len]; simp)
      · exact ((Ext.set PS' u _).trans (Ext.set _ q _)).trans (Ext.app _ _)
end Go.Proofs.Ytpegkffdhpdciaa
