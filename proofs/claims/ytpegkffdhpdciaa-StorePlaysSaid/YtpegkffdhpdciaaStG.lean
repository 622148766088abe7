import Derived.Test.YtpegkffdhpdciaaStF
namespace Go.Proofs.Ytpegkffdhpdciaa
open Go Go.Eng
set_option maxRecDepth 20000
set_option linter.unusedSimpArgs false
attribute [local irreducible] hvc hops hop hplan hval1 hopD HLoop
theorem new_bad (PS : PL) (n : Int) (h : n < 1 ∨ 256 < n) :
    HCall Try.prog 8 [.int .i64 n] PS fun r PS' => r = .tup [.cst (.pointer none), .int .i64 1] ∧ PS' = PS := by
  refine enter_8 (by unfold Try.f8; exact rfl) ?_
  by_cases h1 : n < 1
  · simp (config := { maxSteps := 30000 }) only [go_sem, Nat.zero_add, Nat.add_zero, Nat.one_mul, Nat.mul_one, Nat.zero_mul, Nat.sub_zero, Nat.le_refl, Int.toNat_natCast, Int.ofNat_lt, Int.ofNat_le, Int.natCast_nonneg, Int.le_refl, Int.cast_ofNat_Int, Int.natCast_one, Int.reduceToNat, Int.reduceLE, Int.reduceLT, Int.reduceAdd, Int.reduceSub, Int.reduceMul, Int.reduceNeg, Int.toNat_zero, Int.reduceEq, Nat.reduceAdd, Nat.reduceSub, Nat.reduceMul, Nat.reduceLeDiff, Nat.reduceLT, Nat.reduceEqDiff, reduceCtorEq, ↓reduceIte, decide_true, decide_false, h1]
  · have h2 : 256 < n := by omega
    simp (config := { maxSteps := 30000 }) only [go_sem, Nat.zero_add, Nat.add_zero, Nat.one_mul, Nat.mul_one, Nat.zero_mul, Nat.sub_zero, Nat.le_refl, Int.toNat_natCast, Int.ofNat_lt, Int.ofNat_le, Int.natCast_nonneg, Int.le_refl, Int.cast_ofNat_Int, Int.natCast_one, Int.reduceToNat, Int.reduceLE, Int.reduceLT, Int.reduceAdd, Int.reduceSub, Int.reduceMul, Int.reduceNeg, Int.toNat_zero, Int.reduceEq, Nat.reduceAdd, Nat.reduceSub, Nat.reduceMul, Nat.reduceLeDiff, Nat.reduceLT, Nat.reduceEqDiff, reduceCtorEq, ↓reduceIte, decide_true, decide_false, h1, h2]
theorem rnew_bad (PS : PL) (n : Int) (h : n < 1 ∨ 256 < n) :
    HCall Try.prog 16 [.int .i64 n] PS fun r PS' => r = .tup [.cst (.pointer none), .int .i64 1] ∧ PS' = PS := by
  refine enter_16 (by unfold Try.f16; exact rfl) ?_
  by_cases h1 : n < 1
  · simp (config := { maxSteps := 30000 }) only [go_sem, Nat.zero_add, Nat.add_zero, Nat.one_mul, Nat.mul_one, Nat.zero_mul, Nat.sub_zero, Nat.le_refl, Int.toNat_natCast, Int.ofNat_lt, Int.ofNat_le, Int.natCast_nonneg, Int.le_refl, Int.cast_ofNat_Int, Int.natCast_one, Int.reduceToNat, Int.reduceLE, Int.reduceLT, Int.reduceAdd, Int.reduceSub, Int.reduceMul, Int.reduceNeg, Int.toNat_zero, Int.reduceEq, Nat.reduceAdd, Nat.reduceSub, Nat.reduceMul, Nat.reduceLeDiff, Nat.reduceLT, Nat.reduceEqDiff, reduceCtorEq, ↓reduceIte, decide_true, decide_false, h1]
  · have h2 : 256 < n := by omega
    simp (config := { maxSteps := 30000 }) only [go_sem, Nat.zero_add, Nat.add_zero, Nat.one_mul, Nat.mul_one, Nat.zero_mul, Nat.sub_zero, Nat.le_refl, Int.toNat_natCast, Int.ofNat_lt, Int.ofNat_le, Int.natCast_nonneg, Int.le_refl, Int.cast_ofNat_Int, Int.natCast_one, Int.reduceToNat, Int.reduceLE, Int.reduceLT, Int.reduceAdd, Int.reduceSub, Int.reduceMul, Int.reduceNeg, Int.toNat_zero, Int.reduceEq, Nat.reduceAdd, Nat.reduceSub, Nat.reduceMul, Nat.reduceLeDiff, Nat.reduceLT, Nat.reduceEqDiff, reduceCtorEq, ↓reduceIte, decide_true, decide_false, h1, h2]
theorem rnew_ (PS : PL) (n : Nat) (h0 : 1 ≤ n) (h1 : n ≤ 256) :
    HCall Try.prog 16 [.int .i64 n] PS fun r PS' => r = .tup [.ptr (PS.length + 2) 0 0 0, .int .i64 0] ∧ Ext [] PS PS' ∧ ∃ q u E, PS.length ≤ q ∧ PS.length ≤ u ∧ StoreRAt PS' (PS.length + 2) u q 0 0 0 (List.replicate n none) E := by
  refine enter_16 (by unfold Try.f16; exact rfl) ?_
  have e1 : ¬ (n : Int) < 1 := by omega
  have e2 : ¬ 256 < (n : Int) := by omega
  simp (config := { maxSteps := 30000 }) only [go_sem, Nat.zero_add, Nat.add_zero, Nat.one_mul, Nat.mul_one, Nat.zero_mul, Nat.sub_zero, Nat.le_refl, Int.toNat_natCast, Int.ofNat_lt, Int.ofNat_le, Int.natCast_nonneg, Int.le_refl, Int.cast_ofNat_Int, Int.natCast_one, Int.reduceToNat, Int.reduceLE, Int.reduceLT, Int.reduceAdd, Int.reduceSub, Int.reduceMul, Int.reduceNeg, Int.toNat_zero, Int.reduceEq, Nat.reduceAdd, Nat.reduceSub, Nat.reduceMul, Nat.reduceLeDiff, Nat.reduceLT, Nat.reduceEqDiff, reduceCtorEq, ↓reduceIte, decide_true, decide_false, e1, e2, bools]
  have e3 : ∀ a b c : Piece, Ext [] PS (PS ++ [a] ++ [b] ++ [c]) := fun a b c => by have := Ext.app PS ([a] ++ ([b] ++ [c])); simpa using this
  have ga : ∀ a b c : Piece, getP (PS ++ [a] ++ [b] ++ [c]) PS.length = a := fun a b c => by simp [getP, List.getD]
  have gb : ∀ a b c : Piece, getP (PS ++ [a] ++ [b] ++ [c]) (PS.length + 1) = b := fun a b c => by simp [getP, List.getD]
  have gc : ∀ a b c : Piece, getP (PS ++ [a] ++ [b] ++ [c]) (PS.length + 2) = c := fun a b c => by simp [getP, List.getD, List.getElem?_append]
  have eb : bools ((List.replicate n (none : Option (List UInt8))).map Option.isSome) = List.replicate n [.bool false] := by simp [bools]
  have h7 : ∀ (i : Nat) (l : List HV), (List.replicate n [HV.imm true []])[i]? = some l → l.length = 1 := by
    intro i l hl; rw [List.getElem?_replicate] at hl; split at hl <;> simp at hl; subst hl; rfl
  have h8 : ∀ (i : Nat) (b : List UInt8), (List.replicate n (none : Option (List UInt8)))[i]? = some (some b) → b.length = 256 ∧ ∃ t, (List.replicate n [HV.imm true []])[i]? = some [.imm t (bytesRows b)] := by
    intro i l hl; rw [List.getElem?_replicate] at hl; split at hl <;> simp at hl
  refine ⟨⟨by omega, by omega, by omega, by omega, e3 _ _ _, PS.length + 1, PS.length, List.replicate n [HV.imm true []], by omega, by omega, ?_⟩, by omega, by omega, by omega, by omega, e3 _ _ _, PS.length, PS.length + 1, List.replicate n [HV.imm true []], by omega, by omega, ?_⟩
  · exact ⟨by rw [gc]; simp, by rw [ga, eb], by rw [gb], by simp, h7, h8, by simpa using h1, by omega, by omega, by omega⟩
  · exact ⟨by rw [gc]; simp, by rw [gb, eb], by rw [ga], by simp, h7, h8, by simpa using h1, by omega, by omega, by omega⟩
theorem copy_ (PS : PL) (p q u vp vq vu : Nat) (k : Cp) (us : List Bool) (bs : List (List UInt8)) (h : StoreAt PS p q u vp vq vu k us bs) :
    HCall Try.prog 21 [.ptr p vp 0 0] PS fun r PS' => r = .ptr (PS.length + 2) 0 0 0 ∧ Ext [] PS PS' ∧ ∃ q' u' vq' vu' k', PS.length ≤ q' ∧ PS.length ≤ u' ∧ StoreAt PS' (PS.length + 2) q' u' 0 vq' vu' k' us bs := by
  refine enter_21 (by unfold Try.f21; exact rfl) ?_
  have hl := h.len
  have hf := h.few
  have t1 : List.take us.length (bs.map bytesH) = bs.map bytesH := List.take_of_length_le (by simp; omega)
  have t2 : List.take us.length (bools us) = bools us := List.take_of_length_le (by simp [bools])
  have g1 : ∀ l, getP (PS ++ l) p = _ := fun l => getP_app l h.obj
  have g2 : ∀ l, getP (PS ++ l) u = _ := fun l => getP_app l h.used
  have e3 : ∀ a b c : Piece, Ext [] PS (PS ++ [a] ++ [b] ++ [c]) := fun a b c => by have := Ext.app PS ([a] ++ ([b] ++ [c])); simpa using this
  have ga : ∀ a b c : Piece, getP (PS ++ [a] ++ [b] ++ [c]) PS.length = a := fun a b c => by simp [getP, List.getD]
  have gb : ∀ a b c : Piece, getP (PS ++ [a] ++ [b] ++ [c]) (PS.length + 1) = b := fun a b c => by simp [getP, List.getD]
  have gc : ∀ a b c : Piece, getP (PS ++ [a] ++ [b] ++ [c]) (PS.length + 2) = c := fun a b c => by simp [getP, List.getD, List.getElem?_append]
  have hbl : (bools us).length = us.length := by simp [bools]
  simp (config := { maxSteps := 30000 }) only [go_sem, Nat.zero_add, Nat.add_zero, Nat.one_mul, Nat.mul_one, Nat.zero_mul, Nat.sub_zero, Nat.le_refl, Int.toNat_natCast, Int.ofNat_lt, Int.ofNat_le, Int.natCast_nonneg, Int.le_refl, Int.cast_ofNat_Int, Int.natCast_one, Int.reduceToNat, Int.reduceLE, Int.reduceLT, Int.reduceAdd, Int.reduceSub, Int.reduceMul, Int.reduceNeg, Int.toNat_zero, Int.reduceEq, Nat.reduceAdd, Nat.reduceSub, Nat.reduceMul, Nat.reduceLeDiff, Nat.reduceLT, Nat.reduceEqDiff, reduceCtorEq, ↓reduceIte, decide_true, decide_false, h.obj, h.used, h.blk, g1, g2, t1, t2, hbl]
  have hbs : bs.length = us.length := hl
  refine ⟨by omega, by simp, by omega, by simp, by omega, e3 _ _ _, PS.length, PS.length + 1, 0, 0, ⟨none, none, true, true⟩, by omega, by omega, ?_⟩
  exact ⟨by rw [gc]; simp [hl], gb _ _ _, ga _ _ _, hl, h.all, hf, by omega, by omega, by omega⟩
end Go.Proofs.Ytpegkffdhpdciaa
