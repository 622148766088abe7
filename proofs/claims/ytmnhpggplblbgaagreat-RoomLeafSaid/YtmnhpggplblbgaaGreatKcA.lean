/-
  Keys compared, their bytes known or named: as a contract, and as a call that runs know.
  No conditions.
-/
import Derived.Test.YtmnhpggplblbgaaGreatRunQb
import Derived.Test.YtmnhpggplblbgaaGreatDm
import Derived.Test.YtmnhpggplblbgaaGreatByA
import Derived.Test.YtmnhpggplblbgaaGreatFactsK
namespace Go.Mo
open Go Go.Eng
set_option linter.unusedSectionVars false
variable [Toks]
abbrev cmpB : Bs → Bs → Int := Lib.compareBytes
attribute [go_sem] List.length_replicate
theorem take_u8s {n : Nat} {k : Bs} (h : k.length ≤ n) : (u8s (pad n k)).take k.length = u8s k := by
  rw [pad_eq h]; simp only [u8s, List.map_append]; rw [List.take_append_of_le_length (by simp), List.take_of_length_le (by simp)]
theorem pad_full {n : Nat} {k : Bs} (h : k.length ≤ n) : u8s k ++ List.replicate (n - k.length) (HV.int .u8 0) = u8s (pad n k) := by
  rw [pad_eq h]; simp [u8s]
theorem flat1 (l : List HV) : (l.map fun y => [y]).flatten = l := by induction l with | nil => rfl | cons a l ih => simp [ih]
theorem heqv_self (x y : HV) (k : IntKind) (u v : Int) (hx : x = .int k u) (hy : y = .int k v) : heqv x y = true ↔ x = y := by
  subst hx; subst hy; simp [heqv]
inductive SameK : List HV → List HV → Prop where
  | nil : SameK [] []
  | cons (k : IntKind) (u v : Int) {a b : List HV} (h : SameK a b) : SameK (.int k u :: a) (.int k v :: b)
theorem SameK.u8s {a b : Bs} (h : a.length = b.length) : SameK (u8s a) (u8s b) := by
  induction a generalizing b with
  | nil => cases b with | nil => exact .nil | cons y b => simp at h
  | cons x a ih =>
    cases b with
    | nil => simp at h
    | cons y b => exact .cons _ _ _ (ih (by simpa using h))
theorem SameK.cells {a b : List HV} (h : SameK a b) (off : Nat) (A B : List HV) (hA : A.length = off) (hB : B.length = off) :
    hfitAll ((List.range a.length).map fun i => (off + i, 1)) (A ++ a) (B ++ b) ∧ (hcmp ((List.range a.length).map fun i => (off + i, 1)) (A ++ a) (B ++ b) = true ↔ a = b) := by
  induction h generalizing off A B with
  | nil => simp [hfitAll, hcmp]
  | cons k u v h ih =>
    rename_i a b
    have := ih (off + 1) (A ++ [.int k u]) (B ++ [.int k v]) (by simp [hA]) (by simp [hB])
    rw [List.append_assoc, List.append_assoc] at this
    simp only [List.cons_append, List.nil_append] at this
    have e : (List.range (List.length (HV.int k u :: a))).map (fun i => (off + i, 1)) = (off, 1) :: (List.range a.length).map fun i => (off + 1 + i, 1) := by
      rw [List.length_cons, List.range_succ_eq_map, List.map_cons, List.map_map]
      simp only [Nat.add_zero, List.cons.injEq, true_and]
      refine List.map_congr_left fun i _ => ?_
      simp [Nat.add_comm, Nat.add_left_comm]
    rw [e]
    have ga : Go.Eng.get (A ++ HV.int k u :: a) off = .int k u := by simp [Go.Eng.get, ← hA]
    have gb : Go.Eng.get (B ++ HV.int k v :: b) off = .int k v := by simp [Go.Eng.get, ← hB]
    constructor
    · intro p hp
      rcases List.mem_cons.1 hp with rfl | hp
      · simp only [ga, gb, hfits]
      · exact this.1 p hp
    · unfold hcmp at this ⊢
      rw [List.all_cons, Bool.and_eq_true, this.2]
      simp only [ga, gb]
      simp [heqv]
theorem SameK.eq {a b : List HV} (h : SameK a b) {ps : Cells} (hp : ps = (List.range a.length).map fun i => (i, 1)) : hfitAll ps a b ∧ (hcmp ps a b = true ↔ a = b) := by
  subst hp
  simpa using h.cells 0 [] [] rfl rfl
theorem SameK.key (a b : Bs) : SameK (keyL a) (keyL b) := .cons _ _ _ (.u8s (by rw [pad_len, pad_len]))
theorem keyL_inj {a b : Bs} (ha : okK a) (h : keyL a = keyL b) : a = b := by
  simp only [keyL, List.cons.injEq, HV.int.injEq, true_and] at h
  exact pad_inj (n := 8) ha (by omega) (u8s_inj h.2)
@[go_sem ↓, go_sem] theorem hfit_key (a b : Bs) : hfitAll [(0, 1), (1, 1), (2, 1), (3, 1), (4, 1), (5, 1), (6, 1), (7, 1), (8, 1)] (keyL a) (keyL b) = True := eq_true ((SameK.key a b).eq (by rw [keyL_len]; rfl)).1
theorem hcmp_key {a b : Bs} (ha : okK a) : hcmp [(0, 1), (1, 1), (2, 1), (3, 1), (4, 1), (5, 1), (6, 1), (7, 1), (8, 1)] (keyL a) (keyL b) = decide (a = b) := by
  have := ((SameK.key a b).eq (ps := [(0, 1), (1, 1), (2, 1), (3, 1), (4, 1), (5, 1), (6, 1), (7, 1), (8, 1)]) (by rw [keyL_len]; rfl)).2
  by_cases h : a = b
  · rw [decide_eq_true h, this, h]
  · rw [decide_eq_false h, Bool.eq_false_iff, ne_eq, this]
    exact fun hh => h (keyL_inj ha hh)
end Go.Mo
namespace Go.Eng
open Go Go.Mo
set_option linter.unusedSectionVars false
variable [Toks]
/-- All names are names of bytes. -/
def ByteToks : Prop := ∀ i, ∃ b : UInt8, Toks.num i = b.toNat
def isB : HV → Bool
  | .int .u8 (.ofNat n) => Nat.blt n 256
  | .tok .u8 _ => true
  | _ => false
def isZ : HV → Bool
  | .int .u8 (.ofNat n) => Nat.beq n 0
  | _ => false
noncomputable def den : HV → UInt8
  | .int .u8 (.ofNat n) => UInt8.ofNat n
  | .tok .u8 i => UInt8.ofNat (Toks.num i).toNat
  | _ => 0
theorem den_sub (hB : ByteToks) {x : HV} (h : isB x = true) : Sub x (.int .u8 (den x).toNat) := by
  unfold isB at h
  split at h
  · rename_i n
    have hn := blt_lt.1 h
    have e : ((UInt8.ofNat n).toNat : Int) = (n : Int) := by simp; omega
    show Sub _ (.int .u8 ((UInt8.ofNat n).toNat : Int))
    rw [e]; exact Sub.refl _
  · rename_i i
    obtain ⟨b, hb⟩ := hB i
    have e : Toks.num i = ((UInt8.ofNat (Toks.num i).toNat).toNat : Int) := by rw [hb]; simp
    exact Sub.untok e
  · cases h
theorem isZ_eq {x : HV} (h : isZ x = true) : x = .int .u8 0 := by
  unfold isZ at h
  split at h
  · rw [beq_eq'.1 h]; rfl
  · cases h
noncomputable def kCmp : Nat → List HV → Nat → List HV → Option Int
  | 0, _, 0, _ => some 0
  | 0, _, _ + 1, _ => some (-1)
  | _ + 1, _, 0, _ => some 1
  | na + 1, x :: a, nb + 1, y :: b => (match x, y with
    | .int .u8 (.ofNat u), .int .u8 (.ofNat v) => bif Nat.blt u v then some (-1) else bif Nat.blt v u then some 1 else kCmp na a nb b
    | .tok .u8 i, .tok .u8 j => on (Nat.beq i j) (kCmp na a nb b)
    | _, _ => none)
  | _, _, _, _ => none
theorem kCmp_h : ∀ (na : Nat) (a : List HV) (nb : Nat) (b : List HV) (r : Int), na ≤ a.length → nb ≤ b.length → (∀ x ∈ a.take na, isB x = true) → (∀ x ∈ b.take nb, isB x = true) → kCmp na a nb b = some r → cmpB ((a.take na).map den) ((b.take nb).map den) = r
  | 0, a, 0, b, r, _, _, _, _, h => by simp only [kCmp, Option.some.injEq] at h; subst h; rfl
  | 0, a, nb + 1, b, r, _, hb, _, _, h => by
    simp only [kCmp, Option.some.injEq] at h; subst h
    cases b with
    | nil => simp at hb
    | cons y b => rfl
  | na + 1, a, 0, b, r, ha, _, _, _, h => by
    simp only [kCmp, Option.some.injEq] at h; subst h
    cases a with
    | nil => simp at ha
    | cons y b => rfl
  | na + 1, [], nb + 1, b, r, ha, _, _, _, h => by simp at ha
  | na + 1, x :: a, nb + 1, [], r, _, hb, _, _, h => by simp at hb
  | na + 1, x :: a, nb + 1, y :: b, r, ha, hb, hx, hy, h => by
    simp only [List.take_succ_cons, List.map_cons, List.length_cons, Nat.add_le_add_iff_right] at ha hb hx hy ⊢
    have bx := hx x (List.mem_cons_self ..)
    have by' := hy y (List.mem_cons_self ..)
    have ih := kCmp_h na a nb b r ha hb (fun z hz => hx z (List.mem_cons_of_mem _ hz)) (fun z hz => hy z (List.mem_cons_of_mem _ hz))
    simp only [kCmp] at h
    show Lib.compareBytes _ _ = r
    rw [Lib.compareBytes]
    split at h
    · rename_i u v
      have hu : u < 256 := blt_lt.1 bx
      have hv : v < 256 := blt_lt.1 by'
      have eu : (den (.int .u8 (.ofNat u))).toNat = u := by show (UInt8.ofNat u).toNat = u; simp; omega
      have ev : (den (.int .u8 (.ofNat v))).toNat = v := by show (UInt8.ofNat v).toNat = v; simp; omega
      have l1 : ∀ p q : UInt8, p < q ↔ p.toNat < q.toNat := fun p q => UInt8.lt_iff_toNat_lt
      cases h1 : Nat.blt u v
      · rw [h1] at h
        have n1 : ¬ u < v := fun hc => by rw [← blt_lt, h1] at hc; cases hc
        rw [if_neg (by rw [l1, eu, ev]; exact n1)]
        cases h2 : Nat.blt v u
        · rw [h2] at h
          have n2 : ¬ v < u := fun hc => by rw [← blt_lt, h2] at hc; cases hc
          rw [if_neg (by rw [l1, eu, ev]; exact n2)]
          exact ih h
        · rw [h2] at h
          simp only [cond_true, cond_false, Option.some.injEq] at h
          subst h
          rw [if_pos (by rw [l1, eu, ev]; exact blt_lt.1 h2)]
      · rw [h1] at h
        simp only [cond_true, Option.some.injEq] at h
        subst h
        rw [if_pos (by rw [l1, eu, ev]; exact blt_lt.1 h1)]
    · rename_i i j
      rw [on_some, beq_eq'] at h
      obtain ⟨rfl, h⟩ := h
      rw [if_neg (by simp), if_neg (by simp)]
      exact ih h
    · cases h
noncomputable def okCells (na : Nat) (a : List HV) : Bool := Nat.ble na 8 && Nat.beq (rLen a) 8 && rAll isB (rTake na a) && rAll isZ (rDrop na a)
theorem SubL.app : ∀ {a b c d : List HV}, SubL a b → SubL c d → SubL (a ++ c) (b ++ d)
  | [], [], _, _, _, h => h
  | _ :: _, _ :: _, _, _, h, k => ⟨h.1, SubL.app h.2 k⟩
  | [], _ :: _, _, _, h, _ => h.elim
  | _ :: _, [], _, _, h, _ => h.elim
theorem subL_den (hB : ByteToks) : ∀ (l : List HV), (∀ x ∈ l, isB x = true) → SubL l (u8s (l.map den))
  | [], _ => trivial
  | x :: l, h => ⟨den_sub hB (h x (List.mem_cons_self ..)), subL_den hB l fun y hy => h y (List.mem_cons_of_mem _ hy)⟩
theorem okCells_h (hB : ByteToks) {na : Nat} {a : List HV} (h : okCells na a = true) : okK ((a.take na).map den) ∧ Sub (.agg (.int .i64 (.ofNat na) :: a)) (.agg (keyL ((a.take na).map den))) ∧ na ≤ a.length ∧ ∀ x ∈ a.take na, isB x = true := by
  simp only [okCells, Bool.and_eq_true, ble_le, beq_eq', rLen_eq, rAll_eq, rTake_eq, rDrop_eq] at h
  obtain ⟨⟨⟨h1, h2⟩, h3⟩, h4⟩ := h
  have h3 := List.all_eq_true.1 h3
  have h4 := List.all_eq_true.1 h4
  have hlen : ((a.take na).map den).length = na := by simp; omega
  refine ⟨by show _ ≤ 8; omega, Sub.agg ?_, by omega, h3⟩
  refine ⟨by rw [hlen]; exact Sub.refl _, ?_⟩
  rw [← pad_full (n := 8) (k := (a.take na).map den) (by omega), hlen]
  have ez : a.drop na = List.replicate (8 - na) (HV.int .u8 0) := by
    refine List.eq_replicate_iff.2 ⟨by simp; omega, fun x hx => isZ_eq (h4 x hx)⟩
  conv => lhs; rw [← List.take_append_drop na a]
  rw [ez]
  exact (subL_den hB _ h3).app (SubL.refl _)
noncomputable def oKc (args : List HV) (m : Mem) : Option (List RM) :=
  match args with
  | [.agg (.int .i64 (.ofNat na) :: a), .agg (.int .i64 (.ofNat nb) :: b)] => on (okCells na a && okCells nb b) (bnd (kCmp na a nb b) fun r => fI r fun r => some [(.int .i64 r, m)])
  | _ => none
end Go.Eng
namespace Go.Proofs.YtmnhpggplblbgaaGreat
open Go Go.Eng Go.Mo
set_option linter.unusedSectionVars false
variable [Toks]
set_option maxRecDepth 20000
set_option linter.unusedSimpArgs false
attribute [local irreducible] hvc hops hop hplan hdrawP hval1 hopD HLoop
theorem keyL_made {k : Bs} (hk : okK k) : HV.int .i64 k.length :: (u8s k ++ List.replicate (8 - k.length) (.int .u8 0)) = keyL k := by rw [pad_full hk]; rfl
theorem key_check (k : Bs) (hk : okK k) : Pure Tryz.prog 333 [.agg (keyL k)] (.bool true) := by
  refine Pure.of_ext (.bool _) fun PS => ?_
  refine enter_333 (by unfold Tryz.f333; exact rfl) ?_
  have hk' : k.length ≤ 8 := hk
  have e1 : ¬ (k.length : Int) < 0 := by omega
  have e2 : ¬ (8 : Int) < (k.length : Int) := by omega
  have e3 : List.take k.length (List.map (fun y => [y]) (u8s (pad 8 k))) = (u8s k).map fun y => [y] := by rw [← List.map_take, take_u8s hk']
  simp (config := { maxSteps := 200000 }) only [go_sem, Nat.zero_add, Nat.add_zero, Nat.one_mul, Nat.mul_one, Nat.zero_mul, Nat.sub_zero, Nat.le_refl, Int.toNat_natCast, Int.ofNat_lt, Int.ofNat_le, Int.natCast_nonneg, Int.le_refl, Int.cast_ofNat_Int, Int.natCast_one, Int.reduceToNat, Int.reduceLE, Int.reduceLT, Int.reduceAdd, Int.reduceSub, Int.reduceMul, Int.reduceNeg, Int.toNat_zero, Int.reduceEq, Nat.reduceAdd, Nat.reduceSub, Nat.reduceMul, Nat.reduceLeDiff, Nat.reduceLT, Nat.reduceEqDiff, reduceCtorEq, ↓reduceIte, decide_true, decide_false, e1, e2, List.length_replicate, e3, flat1, u8s_len, List.drop_replicate, List.replicate_zero, List.append_nil, keyL_made hk, hcmp_key hk]
  exact ⟨by simp [ones_iff, HV.one], by omega, by omega, Ext.app _ _⟩
theorem bytesOf_u8s (b : Bs) : bytesOf ((u8s b).map fun y => [y]) = some b := by
  have : (u8s b).map (fun y => [y]) = bytesRows b := by simp [u8s, bytesRows]
  rw [this]; exact bytesOf_rows b
theorem key_text (k : Bs) (hk : okK k) : Pure Tryz.prog 286 [.agg (keyL k)] (.str k) := by
  refine Pure.of_ext (.str _) fun PS => ?_
  refine enter_286 (by unfold Tryz.f286; exact rfl) ?_
  simp (config := { maxSteps := 200000 }) only [go_sem, Nat.zero_add, Nat.add_zero, Nat.one_mul, Nat.mul_one, Nat.zero_mul, Nat.sub_zero, Nat.le_refl, Int.toNat_natCast, Int.ofNat_lt, Int.ofNat_le, Int.natCast_nonneg, Int.le_refl, Int.cast_ofNat_Int, Int.natCast_one, Int.reduceToNat, Int.reduceLE, Int.reduceLT, Int.reduceAdd, Int.reduceSub, Int.reduceMul, Int.reduceNeg, Int.toNat_zero, Int.reduceEq, Nat.reduceAdd, Nat.reduceSub, Nat.reduceMul, Nat.reduceLeDiff, Nat.reduceLT, Nat.reduceEqDiff, reduceCtorEq, ↓reduceIte, decide_true, decide_false]
  refine pend_intro ((key_check k hk).call ?_)
  have hk' : k.length ≤ 8 := hk
  simp (config := { maxSteps := 200000 }) only [go_sem, Nat.zero_add, Nat.add_zero, Nat.one_mul, Nat.mul_one, Nat.zero_mul, Nat.sub_zero, Nat.le_refl, Int.toNat_natCast, Int.ofNat_lt, Int.ofNat_le, Int.natCast_nonneg, Int.le_refl, Int.cast_ofNat_Int, Int.natCast_one, Int.reduceToNat, Int.reduceLE, Int.reduceLT, Int.reduceAdd, Int.reduceSub, Int.reduceMul, Int.reduceNeg, Int.toNat_zero, Int.reduceEq, Nat.reduceAdd, Nat.reduceSub, Nat.reduceMul, Nat.reduceLeDiff, Nat.reduceLT, Nat.reduceEqDiff, reduceCtorEq, ↓reduceIte, decide_true, decide_false, take_u8s hk', bytesOf_u8s]
  exact ⟨by omega, by omega, Ext.app _ _⟩
theorem key_cmp (a b : Bs) (ha : okK a) (hb : okK b) : Pure Tryz.prog 204 [.agg (keyL a), .agg (keyL b)] (.int .i64 (cmpB a b)) := by
  refine Pure.of_ext (.int _ _) fun PS => ?_
  refine enter_204 (by unfold Tryz.f204; exact rfl) ?_
  simp (config := { maxSteps := 200000 }) only [go_sem, Nat.zero_add, Nat.add_zero, Nat.one_mul, Nat.mul_one, Nat.zero_mul, Nat.sub_zero, Nat.le_refl, Int.toNat_natCast, Int.ofNat_lt, Int.ofNat_le, Int.natCast_nonneg, Int.le_refl, Int.cast_ofNat_Int, Int.natCast_one, Int.reduceToNat, Int.reduceLE, Int.reduceLT, Int.reduceAdd, Int.reduceSub, Int.reduceMul, Int.reduceNeg, Int.toNat_zero, Int.reduceEq, Nat.reduceAdd, Nat.reduceSub, Nat.reduceMul, Nat.reduceLeDiff, Nat.reduceLT, Nat.reduceEqDiff, reduceCtorEq, ↓reduceIte, decide_true, decide_false]
  refine pend_intro ((key_text a ha).to ?_)
  simp (config := { maxSteps := 200000 }) only [go_sem, Nat.zero_add, Nat.add_zero, Nat.one_mul, Nat.mul_one, Nat.zero_mul, Nat.sub_zero, Nat.le_refl, Int.toNat_natCast, Int.ofNat_lt, Int.ofNat_le, Int.natCast_nonneg, Int.le_refl, Int.cast_ofNat_Int, Int.natCast_one, Int.reduceToNat, Int.reduceLE, Int.reduceLT, Int.reduceAdd, Int.reduceSub, Int.reduceMul, Int.reduceNeg, Int.toNat_zero, Int.reduceEq, Nat.reduceAdd, Nat.reduceSub, Nat.reduceMul, Nat.reduceLeDiff, Nat.reduceLT, Nat.reduceEqDiff, reduceCtorEq, ↓reduceIte, decide_true, decide_false]
  refine pend_intro ((key_text b hb).to ?_)
  simp (config := { maxSteps := 200000 }) only [go_sem, Nat.zero_add, Nat.add_zero, Nat.one_mul, Nat.mul_one, Nat.zero_mul, Nat.sub_zero, Nat.le_refl, Int.toNat_natCast, Int.ofNat_lt, Int.ofNat_le, Int.natCast_nonneg, Int.le_refl, Int.cast_ofNat_Int, Int.natCast_one, Int.reduceToNat, Int.reduceLE, Int.reduceLT, Int.reduceAdd, Int.reduceSub, Int.reduceMul, Int.reduceNeg, Int.toNat_zero, Int.reduceEq, Nat.reduceAdd, Nat.reduceSub, Nat.reduceMul, Nat.reduceLeDiff, Nat.reduceLT, Nat.reduceEqDiff, reduceCtorEq, ↓reduceIte, decide_true, decide_false]
  refine pend_intro ((strings_compare a b).to ?_)
  simp (config := { maxSteps := 200000 }) only [go_sem, Nat.zero_add, Nat.add_zero, Nat.one_mul, Nat.mul_one, Nat.zero_mul, Nat.sub_zero, Nat.le_refl, Int.toNat_natCast, Int.ofNat_lt, Int.ofNat_le, Int.natCast_nonneg, Int.le_refl, Int.cast_ofNat_Int, Int.natCast_one, Int.reduceToNat, Int.reduceLE, Int.reduceLT, Int.reduceAdd, Int.reduceSub, Int.reduceMul, Int.reduceNeg, Int.toNat_zero, Int.reduceEq, Nat.reduceAdd, Nat.reduceSub, Nat.reduceMul, Nat.reduceLeDiff, Nat.reduceLT, Nat.reduceEqDiff, reduceCtorEq, ↓reduceIte, decide_true, decide_false]
  exact Ext.app _ _
theorem oKc_h (hB : ByteToks) {args : List HV} {m : Mem} {L : List RM} (h : oKc args m = some L) : HCall Tryz.prog 204 args m.pl fun v PS => ∃ x ∈ L, v = x.1 ∧ PS = x.2.pl := by
  unfold oKc at h
  split at h
  · rename_i na a nb b
    simp only [on_some, Bool.and_eq_true, bnd_some, fI_eq] at h
    obtain ⟨⟨h1, h2⟩, r, h3, h4⟩ := h
    cases h4
    obtain ⟨a1, a2, a3, a4⟩ := okCells_h hB h1
    obtain ⟨b1, b2, b3, b4⟩ := okCells_h hB h2
    have hr := kCmp_h na a nb b r a3 b3 a4 b4 h3
    have := (key_cmp _ _ a1 b1).way (m := m)
    rw [hr] at this
    exact HCall.sub (args := [.agg (keyL ((a.take na).map den)), .agg (keyL ((b.take nb).map den))]) ⟨a2, b2, trivial⟩ this
  · cases h
end Go.Proofs.YtmnhpggplblbgaaGreat
