import Derived.Test.YtpegkffdhpdciaaStH
namespace Go.Proofs.Ytpegkffdhpdciaa
open Go Go.Eng
set_option maxRecDepth 20000
set_option linter.unusedSimpArgs false
attribute [local irreducible] hvc hops hop hplan hval1 hopD HLoop
theorem place_ (v n : Int) (h0 : 0 < n) (h1 : n ≤ 9223372036854775807) : Pure Try.prog 7 [.int .i64 v, .int .i64 n] (.int .i64 (v % n)) := by
  intro PS
  refine enter_7 (by unfold Try.f7; exact rfl) ?_
  simp (config := { maxSteps := 30000 }) only [go_sem, Nat.zero_add, Nat.add_zero, Nat.one_mul, Nat.mul_one, Nat.zero_mul, Nat.sub_zero, Nat.le_refl, Int.toNat_natCast, Int.ofNat_lt, Int.ofNat_le, Int.natCast_nonneg, Int.le_refl, Int.cast_ofNat_Int, Int.natCast_one, Int.reduceToNat, Int.reduceLE, Int.reduceLT, Int.reduceAdd, Int.reduceSub, Int.reduceMul, Int.reduceNeg, Int.toNat_zero, Int.reduceEq, Nat.reduceAdd, Nat.reduceSub, Nat.reduceMul, Nat.reduceLeDiff, Nat.reduceLT, Nat.reduceEqDiff, reduceCtorEq, ↓reduceIte, decide_true, decide_false]
  have h2 := Int.emod_lt_of_pos v h0
  have h3 := Int.emod_nonneg v (Int.ne_of_gt h0)
  have h4 : v.tmod n = v % n ∨ v.tmod n = v % n - n := by
    rw [Int.tmod_eq_emod]
    split
    · left; omega
    · right; rw [Int.natAbs_of_nonneg (Int.le_of_lt h0)]
  refine ⟨by omega, ?_⟩
  rcases h4 with h4 | h4
  · rw [if_neg (by omega), h4]
  · rw [if_pos (by omega), h4]
    exact ⟨by omega, by rw [Int.sub_add_cancel]⟩
@[go_sem ↓, go_sem] theorem bytesOf_rows (l : List UInt8) : bytesOf (bytesRows l) = some l := by
  induction l with
  | nil => rfl
  | cons a l ih =>
    have : bytesRows (a :: l) = [HV.int .u8 a.toNat] :: bytesRows l := rfl
    rw [this]
    simp [bytesOf, ih]
theorem u8_wrap (z : Int) : IntKind.u8.wrap z = z % 256 := rfl
theorem u8_add (y : UInt8) (k : Nat) : ((y + UInt8.ofNat k).toNat : Int) = IntKind.u8.wrap (y.toNat + k) := by
  rw [u8_wrap, UInt8.toNat_add]; simp
theorem u8_tmod (i : Nat) : IntKind.u8.wrap ((i : Int).tmod 7) = ((i % 7 : Nat) : Int) := by
  rw [u8_wrap, Int.tmod_eq_emod_of_nonneg (by omega)]; omega
def made (n : Nat) (by_ : UInt8) : List UInt8 := (List.range n).map fun i => by_ + UInt8.ofNat (i % 7)
theorem bytes_ (n : Nat) (hn : n ≤ 140737488355328) (y : UInt8) : ∃ t, Pure Try.prog 10 [.int .i64 n, .int .u8 y.toNat] (.imm t (bytesRows (made n y))) := by
  refine ⟨true, Pure.of_ext (bytesRows_scoped _ _ _) fun PS => HCall.frz ?_⟩
  refine enter_10 (by unfold Try.f10; exact rfl) ?_
  simp (config := { maxSteps := 30000 }) only [go_sem, Nat.zero_add, Nat.add_zero, Nat.one_mul, Nat.mul_one, Nat.zero_mul, Nat.sub_zero, Nat.le_refl, Int.toNat_natCast, Int.ofNat_lt, Int.ofNat_le, Int.natCast_nonneg, Int.le_refl, Int.cast_ofNat_Int, Int.natCast_one, Int.reduceToNat, Int.reduceLE, Int.reduceLT, Int.reduceAdd, Int.reduceSub, Int.reduceMul, Int.reduceNeg, Int.toNat_zero, Int.reduceEq, Nat.reduceAdd, Nat.reduceSub, Nat.reduceMul, Nat.reduceLeDiff, Nat.reduceLT, Nat.reduceEqDiff, reduceCtorEq, ↓reduceIte, decide_true, decide_false]
  refine ⟨by omega, by omega, pend_intro (loop_rule (α := Nat) [false, false, false, false, false, false, false, false, false, true, true, true, true, true, true, true, true, true, true, true, true, true] (fun i => [(6, .int .i64 i)]) (fun i => n - i) (fun i PS' => i ≤ n ∧ PS' = PS ++ [.arr 0 1 (bytesRows (made i y ++ List.replicate (n - i) 0)) false]) 0 ⟨Nat.zero_le _, ?_⟩ ?_ ?_)⟩
  · simp [made, bytesRows]
  · simp only [go_sem, Nat.zero_add, Nat.add_zero, Nat.one_mul, Nat.mul_one, Nat.zero_mul, Nat.sub_zero, Nat.le_refl, Int.toNat_natCast, Int.ofNat_lt, Int.ofNat_le, Int.natCast_nonneg, Int.le_refl, Int.cast_ofNat_Int, Int.natCast_one, Int.reduceToNat, Int.reduceLE, Int.reduceLT, Int.reduceAdd, Int.reduceSub, Int.reduceMul, Int.reduceNeg, Int.toNat_zero, Int.reduceEq, Nat.reduceAdd, Nat.reduceSub, Nat.reduceMul, Nat.reduceLeDiff, Nat.reduceLT, Nat.reduceEqDiff, reduceCtorEq, ↓reduceIte, decide_true, decide_false, Int.natCast_zero]
  · intro i PS' hr
    have hi := hr.1
    have he := hr.2
    subst he
    clear hr
    have g3 : ∀ x, getP (PS ++ [x]) PS.length = x := fun x => getP_last _ x
    by_cases hlt : i < n
    · simp (config := { maxSteps := 30000 }) only [go_sem, Nat.zero_add, Nat.add_zero, Nat.one_mul, Nat.mul_one, Nat.zero_mul, Nat.sub_zero, Nat.le_refl, Int.toNat_natCast, Int.ofNat_lt, Int.ofNat_le, Int.natCast_nonneg, Int.le_refl, Int.cast_ofNat_Int, Int.natCast_one, Int.reduceToNat, Int.reduceLE, Int.reduceLT, Int.reduceAdd, Int.reduceSub, Int.reduceMul, Int.reduceNeg, Int.toNat_zero, Int.reduceEq, Nat.reduceAdd, Nat.reduceSub, Nat.reduceMul, Nat.reduceLeDiff, Nat.reduceLT, Nat.reduceEqDiff, reduceCtorEq, ↓reduceIte, decide_true, decide_false, g3, hlt, HV.int.injEq]
      have hml : (made i y).length = i := by simp [made]
      have hr1 : List.replicate (n - i) (0 : UInt8) = 0 :: List.replicate (n - (i + 1)) 0 := by rw [show n - i = (n - (i + 1)) + 1 by omega, List.replicate_succ]
      have hget : (bytesRows (made i y ++ List.replicate (n - i) 0))[i]? = some [.int .u8 0] := by
        simp [bytesRows, hml, List.getElem?_append, hr1]
      have hmk : made (i + 1) y = made i y ++ [y + UInt8.ofNat (i % 7)] := by simp [made, List.range_succ]
      simp only [hget, hsome_some, List.length_cons, List.length_nil, List.drop_succ_cons, List.drop_nil, set_last]
      refine ⟨trivial, by omega, by omega, i + 1, by omega, ⟨by omega, ?_⟩, by omega⟩
      congr 3
      rw [hmk, hr1, List.append_assoc]
      simp only [bytesRows, List.map_append, List.map_cons]
      rw [List.set_append_right _ _ (by simp [hml])]
      simp only [List.length_map, hml, Nat.sub_self, List.set_cons_zero, List.map_nil, List.nil_append, List.cons_append]
      rw [u8_add y (i % 7), u8_tmod]
    · simp (config := { maxSteps := 30000 }) only [go_sem, Nat.zero_add, Nat.add_zero, Nat.one_mul, Nat.mul_one, Nat.zero_mul, Nat.sub_zero, Nat.le_refl, Int.toNat_natCast, Int.ofNat_lt, Int.ofNat_le, Int.natCast_nonneg, Int.le_refl, Int.cast_ofNat_Int, Int.natCast_one, Int.reduceToNat, Int.reduceLE, Int.reduceLT, Int.reduceAdd, Int.reduceSub, Int.reduceMul, Int.reduceNeg, Int.toNat_zero, Int.reduceEq, Nat.reduceAdd, Nat.reduceSub, Nat.reduceMul, Nat.reduceLeDiff, Nat.reduceLT, Nat.reduceEqDiff, reduceCtorEq, ↓reduceIte, decide_true, decide_false, g3, hlt, HV.int.injEq]
      have hin : i = n := by omega
      subst hin
      have hl : (bytesRows (made i y ++ List.replicate (i - i) 0)).length = i := by simp [bytesRows, made]
      refine ⟨_, _, _, _, _, _, PS ++ [.dead], getP_last _ _, .shut 0 i (by rw [hl]; omega), FrzPS.last0, ?_, Ext.app _ _⟩
      rw [List.drop_zero, List.take_of_length_le (by omega), Nat.sub_self, List.replicate_zero, List.append_nil]
theorem same_ints_ (t t' : Bool) (a b : List Nat) : Pure Try.prog 22 [.imm t (ints a), .imm t' (ints b)] (.bool (decide (a = b))) := by
  intro PS
  refine enter_22 (by unfold Try.f22; exact rfl) ?_
  simp (config := { maxSteps := 30000 }) only [go_sem, Nat.zero_add, Nat.add_zero, Nat.one_mul, Nat.mul_one, Nat.zero_mul, Nat.sub_zero, Nat.le_refl, Int.toNat_natCast, Int.ofNat_lt, Int.ofNat_le, Int.natCast_nonneg, Int.le_refl, Int.cast_ofNat_Int, Int.natCast_one, Int.reduceToNat, Int.reduceLE, Int.reduceLT, Int.reduceAdd, Int.reduceSub, Int.reduceMul, Int.reduceNeg, Int.toNat_zero, Int.reduceEq, Nat.reduceAdd, Nat.reduceSub, Nat.reduceMul, Nat.reduceLeDiff, Nat.reduceLT, Nat.reduceEqDiff, reduceCtorEq, ↓reduceIte, decide_true, decide_false, ints_len]
  intro h1 h2
  have hm : a.length ≤ 9223372036854775807 := h1
  split
  · rename_i h3
    have : ¬ a = b := by rintro rfl; exact h3 rfl
    rw [decide_eq_false this]
  · rename_i h3
    have hl : b.length = a.length := by omega
    refine pend_intro (loop_rule (α := Nat) [false, false, false, false, true, false, false, false, false, false, false, true, true, true, true, true, true, true, true, true, true, true, true, true, true, true] (fun i => [(5, .int .i64 i)]) (fun i => a.length - i) (fun i PS' => (i ≤ a.length ∧ ∀ j, j < i → a[j]? = b[j]?) ∧ PS' = PS) 0 ⟨⟨Nat.zero_le _, fun j hj => absurd hj (Nat.not_lt_zero _)⟩, rfl⟩ ?_ ?_)
    · simp only [go_sem, Nat.zero_add, Nat.add_zero, Nat.one_mul, Nat.mul_one, Nat.zero_mul, Nat.sub_zero, Nat.le_refl, Int.toNat_natCast, Int.ofNat_lt, Int.ofNat_le, Int.natCast_nonneg, Int.le_refl, Int.cast_ofNat_Int, Int.natCast_one, Int.reduceToNat, Int.reduceLE, Int.reduceLT, Int.reduceAdd, Int.reduceSub, Int.reduceMul, Int.reduceNeg, Int.toNat_zero, Int.reduceEq, Nat.reduceAdd, Nat.reduceSub, Nat.reduceMul, Nat.reduceLeDiff, Nat.reduceLT, Nat.reduceEqDiff, reduceCtorEq, ↓reduceIte, decide_true, decide_false, Int.natCast_zero]
    · intro i PS' hr
      have hi := hr.1.1
      have hs := hr.1.2
      have he := hr.2
      subst he
      clear hr
      by_cases hlt : i < a.length
      · have hb : i < b.length := by omega
        have ha1 : a[i]? = some a[i] := by simp [hlt]
        have hb1 : b[i]? = some b[i] := by simp [hb]
        simp (config := { maxSteps := 30000 }) only [go_sem, Nat.zero_add, Nat.add_zero, Nat.one_mul, Nat.mul_one, Nat.zero_mul, Nat.sub_zero, Nat.le_refl, Int.toNat_natCast, Int.ofNat_lt, Int.ofNat_le, Int.natCast_nonneg, Int.le_refl, Int.cast_ofNat_Int, Int.natCast_one, Int.reduceToNat, Int.reduceLE, Int.reduceLT, Int.reduceAdd, Int.reduceSub, Int.reduceMul, Int.reduceNeg, Int.toNat_zero, Int.reduceEq, Nat.reduceAdd, Nat.reduceSub, Nat.reduceMul, Nat.reduceLeDiff, Nat.reduceLT, Nat.reduceEqDiff, reduceCtorEq, ↓reduceIte, decide_true, decide_false, hlt, hb, ints, List.getElem?_map, Option.map_some, ha1, hb1, List.length_map, HV.int.injEq]
        intro _
        split
        · rename_i hne
          have : ¬ a = b := by
            rintro rfl
            exact hne rfl
          rw [decide_eq_false this]
        · rename_i he
          refine ⟨by omega, i + 1, by omega, ⟨by omega, fun j hj => ?_⟩, by omega⟩
          by_cases hji : j < i
          · exact hs j hji
          · have : j = i := by omega
            subst this
            rw [ha1, hb1]
            have : a[j] = b[j] := by omega
            rw [this]
      · simp (config := { maxSteps := 30000 }) only [go_sem, Nat.zero_add, Nat.add_zero, Nat.one_mul, Nat.mul_one, Nat.zero_mul, Nat.sub_zero, Nat.le_refl, Int.toNat_natCast, Int.ofNat_lt, Int.ofNat_le, Int.natCast_nonneg, Int.le_refl, Int.cast_ofNat_Int, Int.natCast_one, Int.reduceToNat, Int.reduceLE, Int.reduceLT, Int.reduceAdd, Int.reduceSub, Int.reduceMul, Int.reduceNeg, Int.toNat_zero, Int.reduceEq, Nat.reduceAdd, Nat.reduceSub, Nat.reduceMul, Nat.reduceLeDiff, Nat.reduceLT, Nat.reduceEqDiff, reduceCtorEq, ↓reduceIte, decide_true, decide_false, hlt, ints, List.length_map]
        intro _
        have : a = b := by
          refine List.ext_getElem? fun j => ?_
          by_cases hj : j < a.length
          · exact hs j (by omega)
          · rw [List.getElem?_eq_none (by omega), List.getElem?_eq_none (by omega)]
        rw [decide_eq_true this]
end Go.Proofs.Ytpegkffdhpdciaa
