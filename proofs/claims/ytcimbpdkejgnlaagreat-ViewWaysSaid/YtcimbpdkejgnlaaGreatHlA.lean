/-
  Keys and values of texts, as contracts; texts by name, their lengths between two numbers.
  No conditions.
-/
import Derived.Test.YtcimbpdkejgnlaaGreatRunK
import Derived.Test.YtcimbpdkejgnlaaGreatRunR
import Derived.Test.YtcimbpdkejgnlaaGreatDm
import Derived.Test.YtcimbpdkejgnlaaGreatByA
import Derived.Test.YtcimbpdkejgnlaaGreatFactsK
namespace Go.Mo
open Go Go.Eng
set_option linter.unusedSectionVars false
variable [Toks]
attribute [go_sem] List.length_replicate
theorem take_u8s {n : Nat} {k : Bs} (h : k.length ≤ n) : (u8s (pad n k)).take k.length = u8s k := by
  rw [pad_eq h]; simp only [u8s, List.map_append]; rw [List.take_append_of_le_length (by simp), List.take_of_length_le (by simp)]
theorem pad_full {n : Nat} {k : Bs} (h : k.length ≤ n) : u8s k ++ List.replicate (n - k.length) (HV.int .u8 0) = u8s (pad n k) := by
  rw [pad_eq h]; simp [u8s]
theorem flat1 (l : List HV) : (l.map fun y => [y]).flatten = l := by induction l with | nil => rfl | cons a l ih => simp [ih]
inductive SameK : List HV → List HV → Prop where
  | nil : SameK [] []
  | cons (k : IntKind) (u v : Int) {a b : List HV} (h : SameK a b) : SameK (.int k u :: a) (.int k v :: b)
theorem SameK.u8s {a b : Bs} (h : a.length = b.length) : SameK (u8s a) (u8s b) := by
  induction a generalizing b with
  | nil => cases b with | nil => exact .nil | cons y b => simp at h
  | cons x a ih =>
    cases b with
    | nil => simp at h
    | cons y b => exact .cons _ _ _ (ih (by simpa using h))
theorem SameK.cells {a b : List HV} (h : SameK a b) (off : Nat) (A B : List HV) (hA : A.length = off) (hB : B.length = off) :
    hfitAll ((List.range a.length).map fun i => (off + i, 1)) (A ++ a) (B ++ b) ∧ (hcmp ((List.range a.length).map fun i => (off + i, 1)) (A ++ a) (B ++ b) = true ↔ a = b) := by
  induction h generalizing off A B with
  | nil => simp [hfitAll, hcmp]
  | cons k u v h ih =>
    rename_i a b
    have := ih (off + 1) (A ++ [.int k u]) (B ++ [.int k v]) (by simp [hA]) (by simp [hB])
    rw [List.append_assoc, List.append_assoc] at this
    simp only [List.cons_append, List.nil_append] at this
    have e : (List.range (List.length (HV.int k u :: a))).map (fun i => (off + i, 1)) = (off, 1) :: (List.range a.length).map fun i => (off + 1 + i, 1) := by
      rw [List.length_cons, List.range_succ_eq_map, List.map_cons, List.map_map]
      simp only [Nat.add_zero, List.cons.injEq, true_and]
      refine List.map_congr_left fun i _ => ?_
      simp [Nat.add_comm, Nat.add_left_comm]
    rw [e]
    have ga : Go.Eng.get (A ++ HV.int k u :: a) off = .int k u := by simp [Go.Eng.get, ← hA]
    have gb : Go.Eng.get (B ++ HV.int k v :: b) off = .int k v := by simp [Go.Eng.get, ← hB]
    constructor
    · intro p hp
      rcases List.mem_cons.1 hp with rfl | hp
      · simp only [ga, gb, hfits]
      · exact this.1 p hp
    · unfold hcmp at this ⊢
      rw [List.all_cons, Bool.and_eq_true, this.2]
      simp only [ga, gb]
      simp [heqv]
theorem SameK.eq {a b : List HV} (h : SameK a b) {ps : Cells} (hp : ps = (List.range a.length).map fun i => (i, 1)) : hfitAll ps a b ∧ (hcmp ps a b = true ↔ a = b) := by
  subst hp
  simpa using h.cells 0 [] [] rfl rfl
theorem SameK.key (a b : Bs) : SameK (keyL a) (keyL b) := .cons _ _ _ (.u8s (by rw [pad_len, pad_len]))
theorem SameK.val (a b : Bs) : SameK (valL a) (valL b) := .cons _ _ _ (.u8s (by rw [pad_len, pad_len]))
theorem keyL_inj {a b : Bs} (ha : okK a) (h : keyL a = keyL b) : a = b := by
  simp only [keyL, List.cons.injEq, HV.int.injEq, true_and] at h
  exact pad_inj (n := 8) ha (by omega) (u8s_inj h.2)
theorem valL_inj {a b : Bs} (ha : okV a) (h : valL a = valL b) : a = b := by
  simp only [valL, List.cons.injEq, HV.int.injEq, true_and] at h
  exact pad_inj (n := 16) ha (by omega) (u8s_inj h.2)
@[go_sem ↓, go_sem] theorem hfit_key (a b : Bs) : hfitAll [(0, 1), (1, 1), (2, 1), (3, 1), (4, 1), (5, 1), (6, 1), (7, 1), (8, 1)] (keyL a) (keyL b) = True := eq_true ((SameK.key a b).eq (by rw [keyL_len]; rfl)).1
theorem hcmp_key {a b : Bs} (ha : okK a) : hcmp [(0, 1), (1, 1), (2, 1), (3, 1), (4, 1), (5, 1), (6, 1), (7, 1), (8, 1)] (keyL a) (keyL b) = decide (a = b) := by
  have := ((SameK.key a b).eq (ps := [(0, 1), (1, 1), (2, 1), (3, 1), (4, 1), (5, 1), (6, 1), (7, 1), (8, 1)]) (by rw [keyL_len]; rfl)).2
  by_cases h : a = b
  · rw [decide_eq_true h, this, h]
  · rw [decide_eq_false h, Bool.eq_false_iff, ne_eq, this]
    exact fun hh => h (keyL_inj ha hh)
@[go_sem ↓, go_sem] theorem hfit_val (a b : Bs) : hfitAll [(0, 1), (1, 1), (2, 1), (3, 1), (4, 1), (5, 1), (6, 1), (7, 1), (8, 1), (9, 1), (10, 1), (11, 1), (12, 1), (13, 1), (14, 1), (15, 1), (16, 1)] (valL a) (valL b) = True := eq_true ((SameK.val a b).eq (by rw [valL_len]; rfl)).1
theorem hcmp_val {a b : Bs} (ha : okV a) : hcmp [(0, 1), (1, 1), (2, 1), (3, 1), (4, 1), (5, 1), (6, 1), (7, 1), (8, 1), (9, 1), (10, 1), (11, 1), (12, 1), (13, 1), (14, 1), (15, 1), (16, 1)] (valL a) (valL b) = decide (a = b) := by
  have := ((SameK.val a b).eq (ps := [(0, 1), (1, 1), (2, 1), (3, 1), (4, 1), (5, 1), (6, 1), (7, 1), (8, 1), (9, 1), (10, 1), (11, 1), (12, 1), (13, 1), (14, 1), (15, 1), (16, 1)]) (by rw [valL_len]; rfl)).2
  by_cases h : a = b
  · rw [decide_eq_true h, this, h]
  · rw [decide_eq_false h, Bool.eq_false_iff, ne_eq, this]
    exact fun hh => h (valL_inj ha hh)
theorem keyL_sc' (n : Nat) (k : Bs) : Scoped n (.agg (keyL k)) := by
  rw [scoped_agg]
  intro x hx
  rcases List.mem_cons.1 hx with rfl | hx
  · exact .int _ _
  · simp only [u8s, List.mem_map] at hx; obtain ⟨b, _, rfl⟩ := hx; exact .int _ _
theorem valL_sc' (n : Nat) (k : Bs) : Scoped n (.agg (valL k)) := by
  rw [scoped_agg]
  intro x hx
  rcases List.mem_cons.1 hx with rfl | hx
  · exact .int _ _
  · simp only [u8s, List.mem_map] at hx; obtain ⟨b, _, rfl⟩ := hx; exact .int _ _
end Go.Mo
namespace Go.Proofs.YtcimbpdkejgnlaaGreat
open Go Go.Eng Go.Mo
set_option linter.unusedSectionVars false
variable [Toks]
set_option maxRecDepth 20000
set_option linter.unusedSimpArgs false
attribute [local irreducible] hvc hops hop hplan hdrawP hval1 hopD HLoop
theorem keyL_made {k : Bs} (hk : okK k) : HV.int .i64 k.length :: (u8s k ++ List.replicate (8 - k.length) (.int .u8 0)) = keyL k := by rw [pad_full hk]; rfl
theorem valL_made {k : Bs} (hk : okV k) : HV.int .i64 k.length :: (u8s k ++ List.replicate (16 - k.length) (.int .u8 0)) = valL k := by rw [pad_full hk]; rfl
theorem key_check (k : Bs) (hk : okK k) : Pure Tryz.prog 414 [.agg (keyL k)] (.bool true) := by
  refine Pure.of_ext (.bool _) fun PS => ?_
  refine enter_414 (by unfold Tryz.f414; exact rfl) ?_
  have hk' : k.length ≤ 8 := hk
  have e1 : ¬ (k.length : Int) < 0 := by omega
  have e2 : ¬ (8 : Int) < (k.length : Int) := by omega
  have e3 : List.take k.length (List.map (fun y => [y]) (u8s (pad 8 k))) = (u8s k).map fun y => [y] := by rw [← List.map_take, take_u8s hk']
  simp (config := { maxSteps := 200000 }) only [go_sem, Nat.zero_add, Nat.add_zero, Nat.one_mul, Nat.mul_one, Nat.zero_mul, Nat.sub_zero, Nat.le_refl, Int.toNat_natCast, Int.ofNat_lt, Int.ofNat_le, Int.natCast_nonneg, Int.le_refl, Int.cast_ofNat_Int, Int.natCast_one, Int.reduceToNat, Int.reduceLE, Int.reduceLT, Int.reduceAdd, Int.reduceSub, Int.reduceMul, Int.reduceNeg, Int.toNat_zero, Int.reduceEq, Nat.reduceAdd, Nat.reduceSub, Nat.reduceMul, Nat.reduceLeDiff, Nat.reduceLT, Nat.reduceEqDiff, reduceCtorEq, ↓reduceIte, decide_true, decide_false, e1, e2, List.length_replicate, e3, flat1, u8s_len, List.drop_replicate, List.replicate_zero, List.append_nil, keyL_made hk, hcmp_key hk]
  exact ⟨by simp [ones_iff, HV.one], by omega, by omega, Ext.app _ _⟩
theorem value_of_part (PS : PL) (n ver c : Nat) (k : Bs) (hk : okV k) (h : getP PS n = .arr ver 17 [valL k] false) : HCall Tryz.prog 392 [.isl n ver 0 1 k.length c] PS fun r PS' => r = .agg (valL k) ∧ PS' = PS := by
  refine HCall.data (valL_sc' _ _) ?_
  refine enter_392 (by unfold Tryz.f392; exact rfl) ?_
  have hk' : k.length ≤ 16 := hk
  have hx : ∀ l, getP (PS ++ l) n = .arr ver 17 [valL k] false := fun l => by rw [getP_app' l (getP_lt h), h]
  have e3 : (u8s k).take 16 = u8s k := List.take_of_length_le (by simp [u8s_len, hk'])
  have e4 : ∀ n m x, List.drop n (List.replicate m x : List HV) = List.replicate (m - n) x := fun _ _ _ => List.drop_replicate
  simp (config := { maxSteps := 200000 }) only [go_sem, Nat.zero_add, Nat.add_zero, Nat.one_mul, Nat.mul_one, Nat.zero_mul, Nat.sub_zero, Nat.le_refl, Int.toNat_natCast, Int.ofNat_lt, Int.ofNat_le, Int.natCast_nonneg, Int.le_refl, Int.cast_ofNat_Int, Int.natCast_one, Int.reduceToNat, Int.reduceLE, Int.reduceLT, Int.reduceAdd, Int.reduceSub, Int.reduceMul, Int.reduceNeg, Int.toNat_zero, Int.reduceEq, Nat.reduceAdd, Nat.reduceSub, Nat.reduceMul, Nat.reduceLeDiff, Nat.reduceLT, Nat.reduceEqDiff, reduceCtorEq, ↓reduceIte, decide_true, decide_false, hx, List.length_replicate, take_u8s hk', ← List.map_take, e3, flat1, u8s_len, e4, List.replicate_zero, List.append_nil, pad_full hk']
  intro _
  have : HV.int .i64 k.length :: u8s (pad 16 k) = valL k := _root_.id rfl
  rw [this]
  exact ⟨by simp [ones_iff, HV.one], by omega, rfl, Ext.app _ _⟩
theorem val_check (k : Bs) (hk : okV k) : Pure Tryz.prog 415 [.agg (valL k)] (.bool true) := by
  refine Pure.of_ext (.bool _) fun PS => ?_
  refine enter_415 (by unfold Tryz.f415; exact rfl) ?_
  have hk' : k.length ≤ 16 := hk
  have e1 : (k.length : Int) ≤ 16 := by omega
  simp (config := { maxSteps := 200000 }) only [go_sem, Nat.zero_add, Nat.add_zero, Nat.one_mul, Nat.mul_one, Nat.zero_mul, Nat.sub_zero, Nat.le_refl, Int.toNat_natCast, Int.ofNat_lt, Int.ofNat_le, Int.natCast_nonneg, Int.le_refl, Int.cast_ofNat_Int, Int.natCast_one, Int.reduceToNat, Int.reduceLE, Int.reduceLT, Int.reduceAdd, Int.reduceSub, Int.reduceMul, Int.reduceNeg, Int.toNat_zero, Int.reduceEq, Nat.reduceAdd, Nat.reduceSub, Nat.reduceMul, Nat.reduceLeDiff, Nat.reduceLT, Nat.reduceEqDiff, reduceCtorEq, ↓reduceIte, decide_true, decide_false, e1]
  have hr : Reads Tryz.prog 392 [.isl PS.length 0 0 1 k.length 16] (PS ++ [.arr 0 17 [valL k] false]) (.agg (valL k)) := fun PS' hp => value_of_part PS' _ _ _ k hk (hp.arr (getP_last _ _))
  refine pend_intro (hr.to ?_)
  simp (config := { maxSteps := 200000 }) only [go_sem, Nat.zero_add, Nat.add_zero, Nat.one_mul, Nat.mul_one, Nat.zero_mul, Nat.sub_zero, Nat.le_refl, Int.toNat_natCast, Int.ofNat_lt, Int.ofNat_le, Int.natCast_nonneg, Int.le_refl, Int.cast_ofNat_Int, Int.natCast_one, Int.reduceToNat, Int.reduceLE, Int.reduceLT, Int.reduceAdd, Int.reduceSub, Int.reduceMul, Int.reduceNeg, Int.toNat_zero, Int.reduceEq, Nat.reduceAdd, Nat.reduceSub, Nat.reduceMul, Nat.reduceLeDiff, Nat.reduceLT, Nat.reduceEqDiff, reduceCtorEq, ↓reduceIte, decide_true, decide_false, hcmp_val hk]
  exact Ext.app _ _
theorem tup2_sc {n : Nat} {a b : HV} (ha : Scoped n a) (hb : Scoped n b) : Scoped n (.tup [a, b]) := by
  rw [scoped_tup]
  intro x hx
  simp only [List.mem_cons, List.not_mem_nil, or_false] at hx
  rcases hx with rfl | rfl
  · exact ha
  · exact hb
end Go.Proofs.YtcimbpdkejgnlaaGreat
