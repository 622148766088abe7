import Derived.Test.YtpegkffdhpdciaaStB
namespace Go.Proofs.Ytpegkffdhpdciaa
open Go Go.Eng
set_option maxRecDepth 20000
set_option linter.unusedSimpArgs false
attribute [local irreducible] hvc hops hop hplan hval1 hopD HLoop
theorem free_no (PS : PL) (p q u vp vq vu : Nat) (k : Cp) (us : List Bool) (bs : List (List UInt8)) (id : Int) (h : StoreAt PS p q u vp vq vu k us bs) (hn : (decide (0 ≤ id) && us.getD id.toNat false) = false) :
    HCall Try.prog 15 [.ptr p vp 0 0, .int .i64 id] PS fun r PS' => r = .int .i64 6 ∧ PS' = PS := by
  refine enter_15 (by unfold Try.f15; exact rfl) ?_
  simp (config := { maxSteps := 30000 }) only [go_sem, Nat.reduceAdd, Nat.reduceSub, Nat.reduceMul, Nat.reduceLeDiff, reduceCtorEq, ↓reduceIte]
  refine pend_intro ((is_ PS p u vp vu us _ _ _ id h.obj h.used).mono ?_)
  intro r PS' hr
  have hr1 := hr.1
  have hr2 := hr.2
  subst hr1 hr2
  rw [hn]
  simp (config := { maxSteps := 30000 }) only [go_sem, h.obj, h.used, Nat.reduceAdd, Nat.reduceSub, Nat.reduceMul, Nat.reduceLeDiff, reduceCtorEq, ↓reduceIte]
theorem StoreAt.setUsed {PS : PL} {p q u vp vq vu : Nat} {k : Cp} {us : List Bool} {bs : List (List UInt8)} (h : StoreAt PS p q u vp vq vu k us bs) (id : Nat) (b : Bool) :
    StoreAt (PS.set u (.arr vu 1 ((bools us).set id [.bool b]) k.o2)) p q u vp vq vu k (us.set id b) bs := by
  have e : (bools us).set id [HV.bool b] = bools (us.set id b) := by simp [bools, List.map_set]
  obtain ⟨h1, h2, h3, h4, h5, h6, h7, h8, h9⟩ := h
  exact ⟨by rw [getP_set_ne _ (Ne.symm h8), h1]; simp, by rw [getP_set_eq _ h2, e], by rw [getP_set_ne _ (Ne.symm h9), h3], by simp [h4], h5, by simpa using h6, h7, h8, h9⟩
theorem StoreAt.setBlk {PS : PL} {p q u vp vq vu : Nat} {k : Cp} {us : List Bool} {bs : List (List UInt8)} (h : StoreAt PS p q u vp vq vu k us bs) (id : Nat) (b : List UInt8) (hb : b.length = 256) :
    StoreAt (PS.set q (.arr vq 256 ((bs.map bytesH).set id (bytesH b)) k.o1)) p q u vp vq vu k us (bs.set id b) := by
  have e : (bs.map bytesH).set id (bytesH b) = (bs.set id b).map bytesH := by simp [List.map_set]
  obtain ⟨h1, h2, h3, h4, h5, h6, h7, h8, h9⟩ := h
  refine ⟨by rw [getP_set_ne _ (Ne.symm h7), h1], by rw [getP_set_ne _ h9, h2], by rw [getP_set_eq _ h3, e], by simp [h4], fun c hc => ?_, h6, h7, h8, h9⟩
  rcases List.mem_or_eq_of_mem_set hc with hc | rfl
  · exact h5 c hc
  · exact hb
theorem free_yes (PS : PL) (p q u vp vq vu : Nat) (k : Cp) (us : List Bool) (bs : List (List UInt8)) (id : Nat) (h : StoreAt PS p q u vp vq vu k us bs) (hn : us[id]? = some true) :
    HCall Try.prog 15 [.ptr p vp 0 0, .int .i64 id] PS fun r PS' => r = .int .i64 0 ∧ Ext [u] PS PS' ∧ StoreAt PS' p q u vp vq vu k (us.set id false) bs := by
  refine enter_15 (by unfold Try.f15; exact rfl) ?_
  simp (config := { maxSteps := 30000 }) only [go_sem, Nat.reduceAdd, Nat.reduceSub, Nat.reduceMul, Nat.reduceLeDiff, reduceCtorEq, ↓reduceIte]
  refine pend_intro ((is_ PS p u vp vu us _ _ _ id h.obj h.used).mono ?_)
  intro r PS' hr
  have hr1 := hr.1
  have hr2 := hr.2
  subst hr1 hr2
  have e : (decide (0 ≤ (id : Int)) && us.getD (id : Int).toNat false) = true := by simp [List.getD, hn]
  rw [e]
  have hlt := (List.getElem?_eq_some_iff.1 hn).1
  simp (config := { maxSteps := 30000 }) only [go_sem, h.obj, h.used, bools, hn, Int.toNat_natCast, Nat.zero_add, Nat.reduceAdd, Nat.reduceSub, Nat.reduceMul, Nat.reduceLeDiff, reduceCtorEq, ↓reduceIte]
  exact ⟨by omega, by omega, Ext.set _ _ _, h.setUsed id false⟩
theorem alloc_full (PS : PL) (p q u vp vq vu : Nat) (k : Cp) (us : List Bool) (bs : List (List UInt8)) (h : StoreAt PS p q u vp vq vu k us bs) (hn : ∀ i, i < us.length → us[i]? = some true) :
    HCall Try.prog 9 [.ptr p vp 0 0] PS fun r PS' => r = .tup [.int .i64 0, .int .i64 3] ∧ PS' = PS := by
  refine enter_9 (by unfold Try.f9; exact rfl) ?_
  simp (config := { maxSteps := 30000 }) only [go_sem, h.obj, h.used, Nat.reduceAdd, Nat.reduceSub, Nat.reduceMul, Nat.reduceLeDiff, reduceCtorEq, ↓reduceIte]
  intro hl
  have hf := h.few
  refine pend_intro (loop_rule (α := Nat) [false, false, true, true, true, true, false, false, false, false, false, false, true, true, true, true, true, true, true, true, true, true, true, true, true, true, true, true, true, true, true, true, true] (fun i => [(11, .int .i64 i)]) (fun i => us.length - i) (fun i PS' => i ≤ us.length ∧ PS' = PS) 0 ⟨Nat.zero_le _, rfl⟩ ?_ ?_)
  · simp only [go_sem, Nat.reduceAdd, Int.natCast_zero]
  · intro i PS' hr
    have hi := hr.1
    have he := hr.2
    subst he
    by_cases hlt : i < us.length
    · have hb := hn i hlt
      simp (config := { maxSteps := 30000 }) only [go_sem, h.obj, h.used, bools, hb, Int.toNat_natCast, Nat.zero_add, Nat.reduceAdd, Nat.reduceSub, Nat.reduceMul, Nat.reduceLeDiff, reduceCtorEq, ↓reduceIte, Int.ofNat_lt, hlt, HV.int.injEq]
      exact ⟨by omega, by omega, i + 1, by omega, by omega, by simp⟩
    · simp (config := { maxSteps := 30000 }) only [go_sem, h.obj, h.used, bools, Int.toNat_natCast, Nat.zero_add, Nat.reduceAdd, Nat.reduceSub, Nat.reduceMul, Nat.reduceLeDiff, reduceCtorEq, ↓reduceIte, Int.ofNat_lt, hlt]
theorem alloc_some (PS : PL) (p q u vp vq vu : Nat) (k : Cp) (us : List Bool) (bs : List (List UInt8)) (h : StoreAt PS p q u vp vq vu k us bs) (j : Nat) (hk : us[j]? = some false) (hn : ∀ i, i < j → us[i]? = some true) :
    HCall Try.prog 9 [.ptr p vp 0 0] PS fun r PS' => r = .tup [.int .i64 j, .int .i64 0] ∧ Ext [u, q] PS PS' ∧ StoreAt PS' p q u vp vq vu k (us.set j true) (bs.set j (List.replicate 256 0)) := by
  refine enter_9 (by unfold Try.f9; exact rfl) ?_
  simp (config := { maxSteps := 30000 }) only [go_sem, h.obj, h.used, Nat.reduceAdd, Nat.reduceSub, Nat.reduceMul, Nat.reduceLeDiff, reduceCtorEq, ↓reduceIte]
  intro hl
  have hf := h.few
  have hkl := (List.getElem?_eq_some_iff.1 hk).1
  refine pend_intro (loop_rule (α := Nat) [false, false, true, true, true, true, false, false, false, false, false, false, true, true, true, true, true, true, true, true, true, true, true, true, true, true, true, true, true, true, true, true, true] (fun i => [(11, .int .i64 i)]) (fun i => us.length - i) (fun i PS' => i ≤ j ∧ PS' = PS) 0 ⟨Nat.zero_le _, rfl⟩ ?_ ?_)
  · simp only [go_sem, Nat.reduceAdd, Int.natCast_zero]
  · intro i PS' hr
    have hi := hr.1
    have he := hr.2
    subst he
    have hlt : i < us.length := by omega
    by_cases hik : i < j
    · have hb := hn i hik
      simp (config := { maxSteps := 30000 }) only [go_sem, h.obj, h.used, bools, hb, Int.toNat_natCast, Nat.zero_add, Nat.reduceAdd, Nat.reduceSub, Nat.reduceMul, Nat.reduceLeDiff, reduceCtorEq, ↓reduceIte, Int.ofNat_lt, hlt, HV.int.injEq]
      exact ⟨by omega, by omega, i + 1, by omega, by omega, by simp⟩
    · have hik : i = j := by omega
      subst hik
      obtain ⟨b, hbb⟩ : ∃ b, bs[i]? = some b := ⟨bs[i]'(by have := h.len; omega), by simp⟩
      have n1 := h.ne.1
      have n2 := h.ne.2.1
      have n3 := h.ne.2.2
      have hq : ∀ Q, getP (PS'.set u Q) q = getP PS' q := fun Q => getP_set_ne Q (Ne.symm n3)
      have hbl : b.length = 256 := h.all b (List.mem_of_getElem? hbb)
      have hones : ones (List.replicate 256 (HV.int .u8 0)) := (ones_iff _).2 (fun y hy => by rw [(List.mem_replicate.1 hy).2]; rfl)
      have hbh : (bytesH b).length = 256 := by simp [bytesH, hbl]
      have hbd : (bytesH b).drop 256 = [] := by simp [hbh]
      simp (config := { maxSteps := 30000 }) only [go_sem, h.obj, h.used, h.blk, hq, hones, hbh, hbd, bools, hk, hbb, List.length_replicate, Int.toNat_natCast, Nat.zero_add, Nat.le_refl, Nat.reduceAdd, Nat.reduceSub, Nat.reduceMul, Nat.reduceLeDiff, reduceCtorEq, ↓reduceIte, Int.ofNat_lt, hlt, HV.int.injEq]
      have s1 := h.setUsed i true
      have s2 := s1.setBlk i (List.replicate 256 0) (by simp)
      refine ⟨by omega, by omega, by omega, ((Ext.set PS' u _).trans (Ext.set _ q _)), ?_⟩
      have e : bytesH (List.replicate 256 0) = List.replicate 256 (HV.int .u8 0) := by simp [bytesH]
      rw [e] at s2
      exact s2
end Go.Proofs.Ytpegkffdhpdciaa
