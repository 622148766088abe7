/-
The store.
No conditions.
-/
import Derived.Test.YtdjfdlpfchokcaaGreatQEngZ
import Derived.Test.YtdjfdlpfchokcaaGreatQFactsA
import Derived.Test.YtdjfdlpfchokcaaGreatQFactsB
import Derived.Test.YtdjfdlpfchokcaaGreatQFactsC
import Derived.Test.YtdjfdlpfchokcaaGreatQFactsD
import Derived.Test.YtdjfdlpfchokcaaGreatQFactsE
import Derived.Test.YtdjfdlpfchokcaaGreatQHm1
set_option linter.unusedSectionVars false
set_option linter.unusedSimpArgs false
set_option linter.unusedVariables false
namespace Go.Proofs.YtdjfdlpfchokcaaGreat
open Go Go.Eng
variable [Toks]
set_option maxRecDepth 20000
attribute [local irreducible] hvc hops hop hplan hdrawP hval1 hopD HLoop
def usedOf (l : List Bool) : Nat → List Nat
 | 0 => []
 | n + 1 => usedOf l n ++ (if l[n]? = some true then [n] else [])
def ints (l : List Nat) : List (List HV) := l.map fun (n : Nat) => [.int .i64 n]
def bools (l : List Bool) : List (List HV) := l.map fun b => [.bool b]
theorem usedOf_len (l : List Bool) (n : Nat) : (usedOf l n).length ≤ n := by
 induction n with
 | zero => simp [usedOf]
 | succ n ih => simp only [usedOf, List.length_append]; split <;> simp <;> omega
theorem ints_len (l : List Nat) : (ints l).length = l.length := by simp [ints]
theorem used_ (PS : PL) (p u vp vu : Nat) (l : List Bool) (x : HV) (c : Option Nat) (o : Bool) (h1 : getP PS p = .arr vp 2 [[x, .sl u vu 0 l.length c]] false) (h2 : getP PS u = .arr vu 1 (bools l) o) (hb : l.length ≤ 65536) :
  HCall Tryz.prog 46 [.ptr p vp 0 0] PS fun r PS' => ∃ ver, r = .sl PS.length ver 0 (usedOf l l.length).length none ∧ PS' = PS ++ [.arr ver 1 (ints (usedOf l l.length)) true] := by
 refine enter_46 (by unfold Tryz.f46; exact rfl) ?_
 simp (config := { maxSteps := 30000 }) only [go_sem, h1, h2, Nat.reduceAdd, Nat.reduceSub, Nat.reduceMul, Nat.reduceLeDiff, reduceCtorEq, ↓reduceIte]
 intro hl
 refine pend_intro (loop_weak (Weak.nil (d := 3) 1 rfl) ?_)
 refine loop_rule (α := Nat × Nat) [false, false, false, false, true, true, false, false, false, false, false, false, true, true, true, true, true, true, true, true, true, true] (fun a => [(11, .int .i64 a.1), (3, .sl PS.length a.2 0 (usedOf l a.1).length none)]) (fun a => l.length - a.1) (fun a PS' => a.1 ≤ l.length ∧ PS' = PS ++ [.arr a.2 1 (ints (usedOf l a.1)) true]) (0, 0) ⟨Nat.zero_le _, rfl⟩ ?_ ?_
 ·simp only [go_sem, Nat.reduceAdd, usedOf, Int.natCast_zero]
 ·intro a PS' h
  have hi := h.1
  have he := h.2
  obtain ⟨i, ver⟩ := a
  subst he
  clear h
  simp only at hi
  have g1 := getP_app [.arr ver 1 (ints (usedOf l i)) true] h1
  have g2 := getP_app [.arr ver 1 (ints (usedOf l i)) true] h2
  have hul := usedOf_len l i
  by_cases hlt : i < l.length
  ·have hb : l[i]? = some l[i] := by simp [hlt]
   simp (config := { maxSteps := 30000 }) only [go_sem, g1, g2, bools, hb, Int.toNat_natCast, Nat.zero_add, getP_last, set_last, Nat.reduceAdd, Nat.reduceSub, Nat.reduceMul, Nat.reduceLeDiff, reduceCtorEq, ↓reduceIte, Int.ofNat_lt, hlt, ints_len, HV.sl.injEq, HV.int.injEq, List.append_cancel_left_eq, List.cons.injEq, Piece.arr.injEq]
   split
   ·rename_i ht
    have e : usedOf l (i + 1) = usedOf l i ++ [i] := by simp [usedOf, hb, ht]
    refine ⟨by omega, by simp, .inl ⟨by omega, by omega, ⟨i + 1, ver + 1⟩, ?_⟩⟩
    simp only [e]
    exact ⟨by omega, ⟨by omega, trivial, by simp [ints]⟩, ⟨trivial, by simp⟩, by omega⟩
   ·rename_i hf
    have e : usedOf l (i + 1) = usedOf l i := by simp [usedOf, hb, hf]
    refine ⟨by omega, ⟨i + 1, ver⟩, ?_⟩
    simp only [e]
    exact ⟨by omega, ⟨by omega, trivial, trivial⟩, ⟨trivial, trivial⟩, by omega⟩
  ·have hil : i = l.length := by omega
   subst hil
   simp (config := { maxSteps := 30000 }) only [go_sem, g1, g2, bools, getP_last, set_last, Nat.reduceAdd, Nat.reduceSub, Nat.reduceMul, Nat.reduceLeDiff, reduceCtorEq, ↓reduceIte, Int.lt_irrefl]
   exact ⟨ver, rfl, rfl⟩
theorem is_ (PS : PL) (p u vp vu : Nat) (l : List Bool) (x : HV) (c : Option Nat) (o : Bool) (id : Int) (h1 : getP PS p = .arr vp 2 [[x, .sl u vu 0 l.length c]] false) (h2 : getP PS u = .arr vu 1 (bools l) o) :
  HCall Tryz.prog 89 [.ptr p vp 0 0, .int .i64 id] PS fun r PS' => r = .bool (decide (0 ≤ id) && l.getD id.toNat false) ∧ PS' = PS := by
 refine enter_89 (by unfold Tryz.f89; exact rfl) ?_
 by_cases h0 : 0 ≤ id
 ·by_cases h3 : id < l.length
  ·have hlt : id.toNat < l.length := by omega
   have hget : l[id.toNat]? = some l[id.toNat] := by simp [hlt]
   have hgd : l.getD id.toNat false = l[id.toNat] := by simp [List.getD, hlt]
   simp (config := { maxSteps := 30000 }) only [go_sem, h1, h2, h0, h3, hget, hgd, bools, Nat.zero_add, Nat.reduceAdd, Nat.reduceSub, Nat.reduceMul, Nat.reduceLeDiff, reduceCtorEq, ↓reduceIte, decide_true, decide_false]
  ·have hgd : l.getD id.toNat false = false := by
    have : l.length ≤ id.toNat := by omega
    simp [List.getD, List.getElem?_eq_none this]
   simp (config := { maxSteps := 30000 }) only [go_sem, h1, h2, h0, h3, hgd, bools, Nat.zero_add, Nat.reduceAdd, Nat.reduceSub, Nat.reduceMul, Nat.reduceLeDiff, reduceCtorEq, ↓reduceIte, decide_true, decide_false]
 ·simp (config := { maxSteps := 30000 }) only [go_sem, h1, h2, h0, bools, Nat.zero_add, Nat.reduceAdd, Nat.reduceSub, Nat.reduceMul, Nat.reduceLeDiff, reduceCtorEq, ↓reduceIte, decide_true, decide_false]
def bytesH (b : List UInt8) : List HV := b.map fun x => .int .u8 x.toNat
structure Cp where
 c1 : Option Nat
 c2 : Option Nat
 o1 : Bool
 o2 : Bool
structure StoreAt (PS : PL) (p q u vp vq vu : Nat) (k : Cp) (us : List Bool) (bs : List (List UInt8)) : Prop where
 obj : getP PS p = .arr vp 2 [[.sl q vq 0 us.length k.c1, .sl u vu 0 us.length k.c2]] false
 used : getP PS u = .arr vu 1 (bools us) k.o2
 blk : getP PS q = .arr vq 256 (bs.map bytesH) k.o1
 len : bs.length = us.length
 all : ∀ b ∈ bs, b.length = 256
 few : us.length ≤ 256
 ne : p ≠ q ∧ p ≠ u ∧ q ≠ u
theorem ints_scoped (k : Nat) (t : Bool) (l : List Nat) : Scoped k (.imm t (ints l)) := by
 rw [scoped_imm]; intro r hr x hx; simp [ints] at hr; obtain ⟨b, _, rfl⟩ := hr; simp at hx; subst hx; exact .int _ _
theorem used_f (PS : PL) (p u vp vu : Nat) (l : List Bool) (x : HV) (c : Option Nat) (o : Bool) (h1 : getP PS p = .arr vp 2 [[x, .sl u vu 0 l.length c]] false) (h2 : getP PS u = .arr vu 1 (bools l) o) (hb : l.length ≤ 65536) :
  HCall Tryz.prog 46 [.ptr p vp 0 0] PS fun r PS' => r = .imm false (ints (usedOf l l.length)) ∧ PS' = PS := by
 refine HCall.data (ints_scoped _ _ _) (HCall.frz ((used_ PS p u vp vu l x c o h1 h2 hb).mono ?_))
 rintro r PS' ⟨ver, rfl, rfl⟩
 refine ⟨_, _, _, _, _, _, PS ++ [.dead], getP_last _ _, .sl 0 _ _ (by rw [ints_len]; omega), FrzPS.last0, ?_, Ext.app _ _⟩
 rw [List.drop_zero, List.take_of_length_le (by rw [ints_len]; exact Nat.le_refl _)]
theorem left_ (PS : PL) (p u vp vu : Nat) (l : List Bool) (x : HV) (c : Option Nat) (o : Bool) (h1 : getP PS p = .arr vp 2 [[x, .sl u vu 0 l.length c]] false) (h2 : getP PS u = .arr vu 1 (bools l) o) (hb : l.length ≤ 65536) :
  HCall Tryz.prog 47 [.ptr p vp 0 0] PS fun r PS' => r = .int .i64 (l.length - (usedOf l l.length).length) ∧ PS' = PS := by
 refine enter_47 (by unfold Tryz.f47; exact rfl) ?_
 simp only [go_sem, seval, h1, h2, bools]
 have hr : Reads Tryz.prog 46 [.ptr p vp 0 0] PS (.imm false (ints (usedOf l l.length))) := fun PS' hp => used_f PS' p u vp vu l x c o (hp.arr h1) (hp.arr h2) hb
 refine pend_intro (hr.to ?_)
 have hl := usedOf_len l l.length
 simp only [go_sem, seval, h1, h2, bools, ints_len]
 omega
theorem new_ (PS : PL) (n : Nat) (h0 : 1 ≤ n) (h1 : n ≤ 256) :
  HCall Tryz.prog 17 [.int .i64 n] PS fun r PS' => r = .tup [.ptr (PS.length + 2) 0 0 0, .int .i64 0] ∧ Ext [] PS PS' ∧ ∃ q u, PS.length ≤ q ∧ PS.length ≤ u ∧ StoreAt PS' (PS.length + 2) q u 0 0 0 ⟨some n, some n, false, false⟩ (List.replicate n false) (List.replicate n (List.replicate 256 0)) := by
 refine enter_17 (by unfold Tryz.f17; exact rfl) ?_
 have e1 : ¬ (n : Int) < 1 := by omega
 have e2 : ¬ 256 < (n : Int) := by omega
 simp only [go_sem, seval, -List.reduceReplicate, e1, e2, bools]
 have eb : bools (List.replicate n false) = List.replicate n [.bool false] := by simp [bools]
 have ez : (List.replicate n (List.replicate 256 (0 : UInt8))).map bytesH = List.replicate n (List.replicate 256 (.int .u8 0)) := by simp [bytesH]
 refine ⟨⟨by omega, by omega, by omega, by omega, Ext.app _ _, PS.length, PS.length + 1, by omega, by omega, ?_⟩, by omega, by omega, by omega, by omega, Ext.app _ _, PS.length + 1, PS.length, by omega, by omega, ?_⟩
 ·exact ⟨by simp only [getP_at, lget_succ, lget_zero] <;> simp, by simp only [getP_at, lget_succ, lget_zero, eb] <;> simp, by simp only [getP_at0, ez] <;> simp, by simp, by simp, by simpa using h1, by omega, by omega, by omega⟩
 ·exact ⟨by simp only [getP_at, lget_succ, lget_zero] <;> simp, by simp only [getP_at0, eb] <;> simp, by simp only [getP_at, lget_succ, lget_zero, ez] <;> simp, by simp, by simp, by simpa using h1, by omega, by omega, by omega⟩
theorem StoreAt.setUsed {PS : PL} {p q u vp vq vu : Nat} {k : Cp} {us : List Bool} {bs : List (List UInt8)} (h : StoreAt PS p q u vp vq vu k us bs) (id : Nat) (b : Bool) :
  StoreAt (PS.set u (.arr vu 1 ((bools us).set id [.bool b]) k.o2)) p q u vp vq vu k (us.set id b) bs := by
 have e : (bools us).set id [HV.bool b] = bools (us.set id b) := by simp [bools, List.map_set]
 obtain ⟨h1, h2, h3, h4, h5, h6, h7, h8, h9⟩ := h
 exact ⟨by rw [getP_set_ne _ (Ne.symm h8), h1]; simp, by rw [getP_set_eq _ h2, e], by rw [getP_set_ne _ (Ne.symm h9), h3], by simp [h4], h5, by simpa using h6, h7, h8, h9⟩
theorem StoreAt.setBlk {PS : PL} {p q u vp vq vu : Nat} {k : Cp} {us : List Bool} {bs : List (List UInt8)} (h : StoreAt PS p q u vp vq vu k us bs) (id : Nat) (b : List UInt8) (hb : b.length = 256) :
  StoreAt (PS.set q (.arr vq 256 ((bs.map bytesH).set id (bytesH b)) k.o1)) p q u vp vq vu k us (bs.set id b) := by
 have e : (bs.map bytesH).set id (bytesH b) = (bs.set id b).map bytesH := by simp [List.map_set]
 obtain ⟨h1, h2, h3, h4, h5, h6, h7, h8, h9⟩ := h
 refine ⟨by rw [getP_set_ne _ (Ne.symm h7), h1], by rw [getP_set_ne _ h9, h2], by rw [getP_set_eq _ h3, e], by simp [h4], fun c hc => ?_, h6, h7, h8, h9⟩
 rcases List.mem_or_eq_of_mem_set hc with hc | rfl
 ·exact h5 c hc
 ·exact hb
theorem alloc_full (PS : PL) (p q u vp vq vu : Nat) (k : Cp) (us : List Bool) (bs : List (List UInt8)) (h : StoreAt PS p q u vp vq vu k us bs) (hn : ∀ i, i < us.length → us[i]? = some true) :
  HCall Tryz.prog 20 [.ptr p vp 0 0] PS fun r PS' => r = .tup [.int .i64 0, .int .i64 3] ∧ PS' = PS := by
 refine enter_20 (by unfold Tryz.f20; exact rfl) ?_
 simp (config := { maxSteps := 30000 }) only [go_sem, h.obj, h.used, Nat.reduceAdd, Nat.reduceSub, Nat.reduceMul, Nat.reduceLeDiff, reduceCtorEq, ↓reduceIte]
 intro hl
 have hf := h.few
 refine pend_intro (loop_rule (α := Nat) [false, false, true, true, true, true, false, false, false, false, false, false, true, true, true, true, true, true, true, true, true, true, true, true, true, true, true, true, true, true, true, true, true] (fun i => [(11, .int .i64 i)]) (fun i => us.length - i) (fun i PS' => i ≤ us.length ∧ PS' = PS) 0 ⟨Nat.zero_le _, rfl⟩ ?_ ?_)
 ·simp only [go_sem, Nat.reduceAdd, Int.natCast_zero]
 ·intro i PS' hr
  have hi := hr.1
  have he := hr.2
  subst he
  by_cases hlt : i < us.length
  ·have hb := hn i hlt
   simp (config := { maxSteps := 30000 }) only [go_sem, h.obj, h.used, bools, hb, Int.toNat_natCast, Nat.zero_add, Nat.reduceAdd, Nat.reduceSub, Nat.reduceMul, Nat.reduceLeDiff, reduceCtorEq, ↓reduceIte, Int.ofNat_lt, hlt, HV.int.injEq]
   exact ⟨by omega, i + 1, by omega, by omega, by simp⟩
  ·simp (config := { maxSteps := 30000 }) only [go_sem, h.obj, h.used, bools, Int.toNat_natCast, Nat.zero_add, Nat.reduceAdd, Nat.reduceSub, Nat.reduceMul, Nat.reduceLeDiff, reduceCtorEq, ↓reduceIte, Int.ofNat_lt, hlt]
theorem alloc_some (PS : PL) (p q u vp vq vu : Nat) (k : Cp) (us : List Bool) (bs : List (List UInt8)) (h : StoreAt PS p q u vp vq vu k us bs) (j : Nat) (hk : us[j]? = some false) (hn : ∀ i, i < j → us[i]? = some true) :
  HCall Tryz.prog 20 [.ptr p vp 0 0] PS fun r PS' => r = .tup [.int .i64 j, .int .i64 0] ∧ Ext [u, q] PS PS' ∧ StoreAt PS' p q u vp vq vu k (us.set j true) (bs.set j (List.replicate 256 0)) := by
 refine enter_20 (by unfold Tryz.f20; exact rfl) ?_
 simp (config := { maxSteps := 30000 }) only [go_sem, h.obj, h.used, Nat.reduceAdd, Nat.reduceSub, Nat.reduceMul, Nat.reduceLeDiff, reduceCtorEq, ↓reduceIte]
 intro hl
 have hf := h.few
 have hkl := (List.getElem?_eq_some_iff.1 hk).1
 refine pend_intro (loop_rule (α := Nat) [false, false, true, true, true, true, false, false, false, false, false, false, true, true, true, true, true, true, true, true, true, true, true, true, true, true, true, true, true, true, true, true, true] (fun i => [(11, .int .i64 i)]) (fun i => us.length - i) (fun i PS' => i ≤ j ∧ PS' = PS) 0 ⟨Nat.zero_le _, rfl⟩ ?_ ?_)
 ·simp only [go_sem, Nat.reduceAdd, Int.natCast_zero]
 ·intro i PS' hr
  have hi := hr.1
  have he := hr.2
  subst he
  have hlt : i < us.length := by omega
  by_cases hik : i < j
  ·have hb := hn i hik
   simp (config := { maxSteps := 30000 }) only [go_sem, h.obj, h.used, bools, hb, Int.toNat_natCast, Nat.zero_add, Nat.reduceAdd, Nat.reduceSub, Nat.reduceMul, Nat.reduceLeDiff, reduceCtorEq, ↓reduceIte, Int.ofNat_lt, hlt, HV.int.injEq]
   exact ⟨by omega, i + 1, by omega, by omega, by simp⟩
  ·have hik : i = j := by omega
   subst hik
   obtain ⟨b, hbb⟩ : ∃ b, bs[i]? = some b := ⟨bs[i]'(by have := h.len; omega), by simp⟩
   have n1 := h.ne.1
   have n2 := h.ne.2.1
   have n3 := h.ne.2.2
   have hq : ∀ Q, getP (PS'.set u Q) q = getP PS' q := fun Q => getP_set_ne Q (Ne.symm n3)
   have hbl : b.length = 256 := h.all b (List.mem_of_getElem? hbb)
   have hones : ones (List.replicate 256 (HV.int .u8 0)) := (ones_iff _).2 (fun y hy => by rw [(List.mem_replicate.1 hy).2]; rfl)
   have hbh : (bytesH b).length = 256 := by simp [bytesH, hbl]
   have hbd : (bytesH b).drop 256 = [] := by simp [hbh]
   simp (config := { maxSteps := 30000 }) only [go_sem, h.obj, h.used, h.blk, hq, hones, hbh, hbd, bools, hk, hbb, List.length_replicate, Int.toNat_natCast, Nat.zero_add, Nat.le_refl, Nat.reduceAdd, Nat.reduceSub, Nat.reduceMul, Nat.reduceLeDiff, reduceCtorEq, ↓reduceIte, Int.ofNat_lt, hlt, HV.int.injEq]
   have s1 := h.setUsed i true
   have s2 := s1.setBlk i (List.replicate 256 0) (by simp)
   refine ⟨((Ext.set PS' u _).trans (Ext.set _ q _)), ?_⟩
   have e : bytesH (List.replicate 256 0) = List.replicate 256 (HV.int .u8 0) := by simp [bytesH]
   rw [e] at s2
   exact s2
theorem bytesRows_flat (l : List UInt8) : (bytesRows l).flatten = bytesH l := by induction l with | nil => rfl | cons a l ih => simp [bytesRows, bytesH] at ih ⊢; exact ih
theorem read_yes (PS : PL) (p q u vp vq vu : Nat) (k : Cp) (us : List Bool) (bs : List (List UInt8)) (h : StoreAt PS p q u vp vq vu k us bs) (id : Nat) (hk : us[id]? = some true) (b : List UInt8) (hb : bs[id]? = some b) :
  HCall Tryz.prog 51 [.ptr p vp 0 0, .int .i64 id] PS fun r PS' => r = .tup [.imm false (bytesRows b), .int .i64 0] ∧ PS' = PS := by
 refine HCall.data (by rw [scoped_tup]; simp [bytesRows_scoped, scoped_int]) (HCall.frz ?_)
 refine enter_51 (by unfold Tryz.f51; exact rfl) ?_
 simp (config := { maxSteps := 30000 }) only [go_sem, seval, -List.reduceReplicate, h.obj, h.used]
 refine pend_intro ((is_ PS p u vp vu us _ _ _ id h.obj h.used).mono ?_)
 intro r PS' hr
 have hr1 := hr.1
 have hr2 := hr.2
 subst hr1 hr2
 have e : (decide (0 ≤ (id : Int)) && us.getD (id : Int).toNat false) = true := by simp [List.getD, hk]
 rw [e]
 have hlt := (List.getElem?_eq_some_iff.1 hk).1
 have hbl : b.length = 256 := h.all b (List.mem_of_getElem? hb)
 have hbh : (bytesH b).length = 256 := by simp [bytesH, hbl]
 have g1 : ∀ l, getP (PS' ++ l) p = _ := fun l => getP_app l h.obj
 have g2 : ∀ l, getP (PS' ++ l) q = _ := fun l => getP_app l h.blk
 have g3 : ∀ x, getP (PS' ++ [x]) PS'.length = x := fun x => getP_last _ x
 simp (config := { maxSteps := 30000 }) only [go_sem, seval, -List.reduceReplicate, h.obj, h.used, g1, g2, g3, hb, hbh, bools, List.length_replicate]
 have e1 : ((List.take 256 (bytesH b)).map fun y => [y]) = bytesRows b := by rw [List.take_of_length_le (by omega)]; simp [bytesH, bytesRows]
 have e2 : (bytesRows b).length = 256 := by simp [bytesRows, hbl]
 refine ⟨by omega, ?_⟩
 rw [e1, List.take_of_length_le (by omega), hsplice]
 simp only [List.take_zero, List.nil_append, e2, List.drop_replicate, Nat.reduceAdd, Nat.reduceSub, List.replicate_zero, List.append_nil, set_last]
 have hne : ¬ bs.map bytesH = [] := by intro h0; rw [List.map_eq_nil_iff] at h0; rw [h0] at hb; simp at hb
 refine ⟨.inr hne, PS'.length, 0, 1, bytesRows b, false, _, (PS' ++ [Piece.arr 0 1 (bytesRows b) false]).set PS'.length .dead, getP_last _ _, FrzL.tup (.cons (.sl 0 256 _ (by omega)) (.refl _ _ _ _)), FrzPS.only (by simp), ?_, ?_⟩
 ·rw [List.drop_zero, List.take_of_length_le (by omega)]
 ·rw [set_last]; exact Ext.app _ _
theorem read_no (PS : PL) (p q u vp vq vu : Nat) (k : Cp) (us : List Bool) (bs : List (List UInt8)) (h : StoreAt PS p q u vp vq vu k us bs) (id : Int) (hn : (decide (0 ≤ id) && us.getD id.toNat false) = false) :
  HCall Tryz.prog 51 [.ptr p vp 0 0, .int .i64 id] PS fun r PS' => r = .tup [.imm true [], .int .i64 6] ∧ PS' = PS := by
 refine enter_51 (by unfold Tryz.f51; exact rfl) ?_
 simp (config := { maxSteps := 30000 }) only [go_sem, seval, h.obj, h.used]
 refine pend_intro ((is_ PS p u vp vu us _ _ _ id h.obj h.used).mono ?_)
 intro r PS' hr
 have hr1 := hr.1
 have hr2 := hr.2
 subst hr1 hr2
 rw [hn]
 simp (config := { maxSteps := 30000 }) only [go_sem, seval, h.obj, h.used]
theorem write_no (PS : PL) (p q u vp vq vu : Nat) (k : Cp) (us : List Bool) (bs : List (List UInt8)) (h : StoreAt PS p q u vp vq vu k us bs) (id : Int) (hn : (decide (0 ≤ id) && us.getD id.toNat false) = false) (t : Bool) (l : List UInt8) :
  HCall Tryz.prog 50 [.ptr p vp 0 0, .int .i64 id, .imm t (bytesRows l)] PS fun r PS' => r = .int .i64 6 ∧ PS' = PS := by
 refine enter_50 (by unfold Tryz.f50; exact rfl) ?_
 simp (config := { maxSteps := 30000 }) only [go_sem, seval, h.obj, h.used]
 refine pend_intro ((is_ PS p u vp vu us _ _ _ id h.obj h.used).mono ?_)
 intro r PS' hr
 have hr1 := hr.1
 have hr2 := hr.2
 subst hr1 hr2
 rw [hn]
 simp (config := { maxSteps := 30000 }) only [go_sem, seval, h.obj, h.used]
theorem write_bad (PS : PL) (p q u vp vq vu : Nat) (k : Cp) (us : List Bool) (bs : List (List UInt8)) (h : StoreAt PS p q u vp vq vu k us bs) (id : Nat) (hk : us[id]? = some true) (t : Bool) (l : List UInt8) (hl : l.length ≠ 256) :
  HCall Tryz.prog 50 [.ptr p vp 0 0, .int .i64 id, .imm t (bytesRows l)] PS fun r PS' => r = .int .i64 1 ∧ PS' = PS := by
 refine enter_50 (by unfold Tryz.f50; exact rfl) ?_
 simp (config := { maxSteps := 30000 }) only [go_sem, seval, h.obj, h.used]
 refine pend_intro ((is_ PS p u vp vu us _ _ _ id h.obj h.used).mono ?_)
 intro r PS' hr
 have hr1 := hr.1
 have hr2 := hr.2
 subst hr1 hr2
 have e : (decide (0 ≤ (id : Int)) && us.getD (id : Int).toNat false) = true := by simp [List.getD, hk]
 rw [e]
 have e2 : ¬ (l.length : Int) = 256 := by omega
 simp (config := { maxSteps := 30000 }) only [go_sem, seval, h.obj, h.used, bytesRows_len, e2]
theorem write_yes (PS : PL) (p q u vp vq vu : Nat) (k : Cp) (us : List Bool) (bs : List (List UInt8)) (h : StoreAt PS p q u vp vq vu k us bs) (id : Nat) (hk : us[id]? = some true) (t : Bool) (l : List UInt8) (hl : l.length = 256) :
  HCall Tryz.prog 50 [.ptr p vp 0 0, .int .i64 id, .imm t (bytesRows l)] PS fun r PS' => r = .int .i64 0 ∧ Ext [q] PS PS' ∧ StoreAt PS' p q u vp vq vu k us (bs.set id l) := by
 refine enter_50 (by unfold Tryz.f50; exact rfl) ?_
 simp (config := { maxSteps := 30000 }) only [go_sem, seval, h.obj, h.used]
 refine pend_intro ((is_ PS p u vp vu us _ _ _ id h.obj h.used).mono ?_)
 intro r PS' hr
 have hr1 := hr.1
 have hr2 := hr.2
 subst hr1 hr2
 have e : (decide (0 ≤ (id : Int)) && us.getD (id : Int).toNat false) = true := by simp [List.getD, hk]
 rw [e]
 have e2 : (l.length : Int) = 256 := by omega
 simp (config := { maxSteps := 30000 }) only [go_sem, seval, h.obj, h.used, h.blk, bytesRows_len, e2]
 intro _
 obtain ⟨b, hb⟩ : ∃ b, bs[id]? = some b := ⟨bs[id]'(by have := h.len; have := (List.getElem?_eq_some_iff.1 hk).1; omega), by simp⟩
 have hbl : (bytesH b).length = 256 := by simpa [bytesH] using h.all b (List.mem_of_getElem? hb)
 have e3 : (List.take 256 (bytesRows l)).flatten ++ List.drop (List.take 256 (bytesRows l)).flatten.length (bytesH b) = bytesH l := by
  rw [List.take_of_length_le (by rw [bytesRows_len]; omega), bytesRows_flat, List.drop_eq_nil_of_le (by rw [hbl]; simp [bytesH]; omega), List.append_nil]
 have hne : ¬ bs.map bytesH = [] := by intro h0; rw [List.map_eq_nil_iff] at h0; rw [h0] at hb; simp at hb
 simp (config := { maxSteps := 30000 }) only [go_sem, seval, h.obj, h.used, h.blk, bytesRows_len, e2, hb, hbl, e3]
 exact ⟨(List.getElem?_eq_some_iff.1 hk).1, .inr hne, Ext.set _ _ _, h.setBlk id l hl⟩
abbrev Shelf := List (Option (List UInt8))
structure StoreRAt (PS : PL) (p u q vp vu vq : Nat) (m : Shelf) (E : List (List HV)) : Prop where
 obj : getP PS p = .arr vp 2 [[.sl u vu 0 m.length (some m.length), .sl q vq 0 m.length (some m.length)]] false
 used : getP PS u = .arr vu 1 (bools (m.map Option.isSome)) false
 blk : getP PS q = .arr vq 1 E false
 len : E.length = m.length
 one : ∀ (i : Nat) (l : List HV), E[i]? = some l → l.length = 1
 all : ∀ (i : Nat) (b : List UInt8), m[i]? = some (some b) → b.length = 256 ∧ ∃ t, E[i]? = some [.imm t (bytesRows b)]
 few : m.length ≤ 256
 ne : p ≠ q ∧ p ≠ u ∧ q ≠ u
def held (m : Shelf) (id : Int) : Bool := decide (0 ≤ id) && (m.getD id.toNat none).isSome
theorem held_eq (m : Shelf) (id : Int) : (decide (0 ≤ id) && (m.map Option.isSome).getD id.toNat false) = held m id := by
 unfold held
 congr 1
 simp only [List.getD, List.getElem?_map]
 cases m[id.toNat]? <;> rfl
def zeros : List UInt8 := List.replicate 256 0
def Shelf.alloc (m : Shelf) : Nat × Int × Shelf :=
 match m.findIdx? Option.isNone with
 | some k => (k, 0, m.set k (some zeros))
 | none => (0, 3, m)
def Shelf.get (m : Shelf) (id : Int) : Option (List UInt8) := if 0 ≤ id then m.getD id.toNat none else none
def Shelf.free (m : Shelf) (id : Int) : Int × Shelf := match m.get id with | some _ => (0, m.set id.toNat none) | none => (6, m)
def Shelf.read (m : Shelf) (id : Int) : List UInt8 × Int := match m.get id with | some b => (b, 0) | none => ([], 6)
def Shelf.write (m : Shelf) (id : Int) (l : List UInt8) : Int × Shelf := match m.get id with | some _ => if l.length = 256 then (0, m.set id.toNat (some l)) else (1, m) | none => (6, m)
def Shelf.used (m : Shelf) : List Nat := usedOf (m.map Option.isSome) m.length
def Shelf.left (m : Shelf) : Int := m.length - m.used.length
def StoreP (PS : PL) (x : HV) (own : List Nat) (m : Shelf) : Prop :=
 ∃ p q u vp vq vu k bs, x = .ptr p vp 0 0 ∧ own = [p, q, u] ∧ StoreAt PS p q u vp vq vu k (m.map Option.isSome) bs ∧ ∀ (i : Nat) (b : List UInt8), m[i]? = some (some b) → bs[i]? = some b
theorem StoreP.lt {PS : PL} {x : HV} {own : List Nat} {m : Shelf} (h : StoreP PS x own m) : ∀ n ∈ own, n < PS.length := by
 obtain ⟨p, q, u, vp, vq, vu, k, bs, rfl, rfl, h, _⟩ := h
 have a := getP_lt h.obj; have b := getP_lt h.blk; have c := getP_lt h.used
 intro n hn; simp at hn; rcases hn with rfl | rfl | rfl <;> assumption
theorem StoreP.frame {PS PS' : PL} {x : HV} {own : List Nat} {m : Shelf} (h : StoreP PS x own m) (hx : ∀ n ∈ own, getP PS' n = getP PS n) : StoreP PS' x own m := by
 obtain ⟨p, q, u, vp, vq, vu, k, bs, rfl, rfl, h, hb⟩ := h
 exact ⟨p, q, u, vp, vq, vu, k, bs, rfl, rfl, ⟨(hx p (by simp)).trans h.obj, (hx u (by simp)).trans h.used, (hx q (by simp)).trans h.blk, h.len, h.all, h.few, h.ne⟩, hb⟩
theorem StoreP.app {PS : PL} {x : HV} {own : List Nat} {m : Shelf} (h : StoreP PS x own m) (l : PL) : StoreP (PS ++ l) x own m := h.frame fun n hn => getP_app' l (h.lt n hn)
theorem Shelf.get_held (m : Shelf) (id : Int) : held m id = (m.get id).isSome := by
 unfold held Shelf.get
 by_cases h : 0 ≤ id <;> simp [h]
theorem Shelf.get_some {m : Shelf} {id : Int} {b : List UInt8} (h : m.get id = some b) : ∃ n : Nat, id = n ∧ m[n]? = some (some b) := by
 unfold Shelf.get at h
 split at h
 ·rename_i h0
  refine ⟨id.toNat, by omega, ?_⟩
  simp only [List.getD] at h
  cases hm : m[id.toNat]? with
  | none => rw [hm] at h; simp at h
  | some o => rw [hm] at h; simp at h; rw [h]
 ·cases h
theorem is_some {m : Shelf} {n : Nat} {b : List UInt8} (h : m[n]? = some (some b)) : (m.map Option.isSome)[n]? = some true := by simp [h]
theorem not_held {m : Shelf} {id : Int} (h : m.get id = none) : held m id = false := by rw [Shelf.get_held, h]; rfl
theorem not_held' {m : Shelf} {id : Int} (h : m.get id = none) : (decide (0 ≤ id) && (m.map Option.isSome).getD id.toNat false) = false := by rw [held_eq]; exact not_held h
variable {PS : PL} {x : HV} {own : List Nat} {m : Shelf}
theorem P_Used (h : StoreP PS x own m) : HCall Tryz.prog 46 [x] PS fun r PS' => r = .imm false (ints m.used) ∧ PS' = PS := by
 obtain ⟨p, q, u, vp, vq, vu, k, bs, rfl, rfl, h, hb⟩ := h
 have := used_f PS p u vp vu _ _ _ _ h.obj h.used (by have := h.few; omega)
 rw [List.length_map] at this
 exact this
theorem P_Left (h : StoreP PS x own m) : HCall Tryz.prog 47 [x] PS fun r PS' => r = .int .i64 m.left ∧ PS' = PS := by
 obtain ⟨p, q, u, vp, vq, vu, k, bs, rfl, rfl, h, hb⟩ := h
 have := left_ PS p u vp vu _ _ _ _ h.obj h.used (by have := h.few; omega)
 simp only [List.length_map] at this
 exact this
theorem P_Read (h : StoreP PS x own m) (id : Int) : HCall Tryz.prog 51 [x, .int .i64 id] PS fun r PS' => (∃ t, r = .tup [.imm t (bytesRows (m.read id).1), .int .i64 (m.read id).2]) ∧ PS' = PS := by
 unfold Shelf.read
 obtain ⟨p, q, u, vp, vq, vu, k, bs, rfl, rfl, h, hb⟩ := h
 cases hg : m.get id with
 | none => exact (read_no PS p q u vp vq vu k _ bs h id (not_held' hg)).mono fun _ _ ⟨h1, h2⟩ => ⟨⟨true, h1⟩, h2⟩
 | some b =>
  obtain ⟨n, rfl, hn⟩ := Shelf.get_some hg
  exact (read_yes PS p q u vp vq vu k _ bs h n (is_some hn) b (hb n b hn)).mono fun _ _ ⟨h1, h2⟩ => ⟨⟨false, h1⟩, h2⟩
theorem P_Write (h : StoreP PS x own m) (id : Int) (t : Bool) (l : List UInt8) : HCall Tryz.prog 50 [x, .int .i64 id, .imm t (bytesRows l)] PS fun r PS' => r = .int .i64 (m.write id l).1 ∧ Ext own PS PS' ∧ StoreP PS' x own (m.write id l).2 := by
 unfold Shelf.write
 have h0 := h
 obtain ⟨p, q, u, vp, vq, vu, k, bs, rfl, rfl, h, hb⟩ := h
 cases hg : m.get id with
 | none =>
  refine (write_no PS p q u vp vq vu k _ bs h id (not_held' hg) t l).mono ?_
  rintro r PS' ⟨rfl, rfl⟩
  exact ⟨rfl, (Ext.refl _).mono (by simp), h0⟩
 | some b =>
  obtain ⟨n, rfl, hn⟩ := Shelf.get_some hg
  by_cases hl : l.length = 256
  ·simp only [if_pos hl]
   refine (write_yes PS p q u vp vq vu k _ bs h n (is_some hn) t l hl).mono ?_
   rintro r PS' ⟨rfl, hx, hs⟩
   refine ⟨rfl, hx.mono (by simp), p, q, u, vp, vq, vu, k, bs.set n l, rfl, rfl, ?_, fun i c hc => ?_⟩
   ·have e : (m.set n (some l)).map Option.isSome = m.map Option.isSome := by
     refine List.ext_getElem? fun i => ?_
     rw [List.getElem?_map, List.getElem?_map]
     by_cases he : n = i
     ·subst he; rw [List.getElem?_set_self (lt_of_get hn), hn]; rfl
     ·rw [List.getElem?_set_ne he]
    rw [Int.toNat_natCast, e]; exact hs
   ·rw [Int.toNat_natCast] at hc
    by_cases he : n = i
    ·subst he
     rw [List.getElem?_set_self (lt_of_get hn)] at hc
     cases hc
     have := lt_of_get (hb n b hn)
     rw [List.getElem?_set_self this]
    ·rw [List.getElem?_set_ne he] at hc ⊢
     exact hb i c hc
  ·simp only [if_neg hl]
   refine (write_bad PS p q u vp vq vu k _ bs h n (is_some hn) t l hl).mono ?_
   rintro r PS' ⟨rfl, rfl⟩
   exact ⟨rfl, (Ext.refl _).mono (by simp), h0⟩
theorem find_none {m : Shelf} (h : m.findIdx? Option.isNone = none) : ∀ i, i < m.length → ∃ b, m[i]? = some (some b) := fun i hi => by
 rw [List.findIdx?_eq_none_iff] at h
 have := h m[i] (List.getElem_mem hi)
 cases hm : m[i] with
 | none => rw [hm] at this; cases this
 | some b => exact ⟨b, by rw [← hm]; simp [hi]⟩
theorem find_some {m : Shelf} {k : Nat} (h : m.findIdx? Option.isNone = some k) : m[k]? = some none ∧ ∀ i, i < k → ∃ b, m[i]? = some (some b) := by
 rw [List.findIdx?_eq_some_iff_getElem] at h
 obtain ⟨hk, h1, h2⟩ := h
 constructor
 ·have : m[k] = none := by simpa using h1
  rw [← this]; simp [hk]
 ·intro i hi
  have := h2 i hi
  cases hm : m[i]'(by omega) with
  | none => rw [hm] at this; simp at this
  | some b => exact ⟨b, by rw [← hm]; simp⟩
theorem P_Alloc (h : StoreP PS x own m) : HCall Tryz.prog 20 [x] PS fun r PS' => r = .tup [.int .i64 m.alloc.1, .int .i64 m.alloc.2.1] ∧ Ext own PS PS' ∧ StoreP PS' x own m.alloc.2.2 := by
 unfold Shelf.alloc
 have h0 := h
 obtain ⟨p, q, u, vp, vq, vu, k, bs, rfl, rfl, h, hb⟩ := h
 cases hg : m.findIdx? Option.isNone with
 | none =>
  refine (alloc_full PS p q u vp vq vu k _ bs h fun i hi => ?_).mono ?_
  ·obtain ⟨b, hb⟩ := find_none hg i (by simpa using hi); simp [hb]
  ·rintro r PS' ⟨rfl, rfl⟩
   exact ⟨rfl, (Ext.refl _).mono (by simp), h0⟩
 | some j =>
  obtain ⟨h1, h2⟩ := find_some hg
  refine (alloc_some PS p q u vp vq vu k _ bs h j (by simp [h1]) fun i hi => ?_).mono ?_
  ·obtain ⟨b, hb⟩ := h2 i hi; simp [hb]
  ·rintro r PS' ⟨rfl, hx, hs⟩
   refine ⟨rfl, hx.mono (by simp), p, q, u, vp, vq, vu, k, bs.set j zeros, rfl, rfl, ?_, fun i c hc => ?_⟩
   ·simp only [List.map_set, Option.isSome_some]; exact hs
   ·by_cases he : j = i
    ·subst he
     rw [List.getElem?_set_self (lt_of_get h1)] at hc
     cases hc
     have := lt_of_get h1
     have hl := h.len
     rw [List.length_map] at hl
     rw [List.getElem?_set_self (by omega)]
    ·rw [List.getElem?_set_ne he] at hc ⊢
     exact hb i c hc
theorem P_New (PS : PL) (n : Nat) (h0 : 1 ≤ n) (h1 : n ≤ 256) : HCall Tryz.prog 17 [.int .i64 n] PS fun r PS' => ∃ p own, r = .tup [.ptr p 0 0 0, .int .i64 0] ∧ Ext [] PS PS' ∧ (∀ k ∈ own, PS.length ≤ k) ∧ StoreP PS' (.ptr p 0 0 0) own (List.replicate n none) := by
 refine (new_ PS n h0 h1).mono ?_
 rintro r PS' ⟨rfl, hx, q, u, h2, h3, hs⟩
 refine ⟨_, _, rfl, hx, ?_, _, q, u, 0, 0, 0, ⟨some n, some n, false, false⟩, List.replicate n (List.replicate 256 0), rfl, rfl, ?_, fun i b hb => ?_⟩
 ·intro k hk; simp at hk; rcases hk with rfl | rfl | rfl <;> omega
 ·rw [List.map_replicate]; exact hs
 ·rw [List.getElem?_replicate] at hb; split at hb <;> simp at hb
end Go.Proofs.YtdjfdlpfchokcaaGreat
