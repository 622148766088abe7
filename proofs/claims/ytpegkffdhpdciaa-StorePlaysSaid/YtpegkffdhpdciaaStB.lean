import Derived.Test.YtpegkffdhpdciaaStA
namespace Go.Proofs.Ytpegkffdhpdciaa
open Go Go.Eng
set_option maxRecDepth 20000
set_option linter.unusedSimpArgs false
attribute [local irreducible] hvc hops hop hplan hval1 hopD HLoop
theorem is_ (PS : PL) (p u vp vu : Nat) (l : List Bool) (x : HV) (c : Option Nat) (o : Bool) (id : Int) (h1 : getP PS p = .arr vp 2 [[x, .sl u vu 0 l.length c]] false) (h2 : getP PS u = .arr vu 1 (bools l) o) :
    HCall Try.prog 27 [.ptr p vp 0 0, .int .i64 id] PS fun r PS' => r = .bool (decide (0 ≤ id) && l.getD id.toNat false) ∧ PS' = PS := by
  refine enter_27 (by unfold Try.f27; exact rfl) ?_
  by_cases h0 : 0 ≤ id
  · by_cases h3 : id < l.length
    · have hlt : id.toNat < l.length := by omega
      have hget : l[id.toNat]? = some l[id.toNat] := by simp [hlt]
      have hgd : l.getD id.toNat false = l[id.toNat] := by simp [List.getD, hlt]
      simp (config := { maxSteps := 30000 }) only [go_sem, h1, h2, h0, h3, hget, hgd, bools, Nat.zero_add, Nat.reduceAdd, Nat.reduceSub, Nat.reduceMul, Nat.reduceLeDiff, reduceCtorEq, ↓reduceIte, decide_true, decide_false]
    · have hgd : l.getD id.toNat false = false := by
        have : l.length ≤ id.toNat := by omega
        simp [List.getD, List.getElem?_eq_none this]
      simp (config := { maxSteps := 30000 }) only [go_sem, h1, h2, h0, h3, hgd, bools, Nat.zero_add, Nat.reduceAdd, Nat.reduceSub, Nat.reduceMul, Nat.reduceLeDiff, reduceCtorEq, ↓reduceIte, decide_true, decide_false]
  · simp (config := { maxSteps := 30000 }) only [go_sem, h1, h2, h0, bools, Nat.zero_add, Nat.reduceAdd, Nat.reduceSub, Nat.reduceMul, Nat.reduceLeDiff, reduceCtorEq, ↓reduceIte, decide_true, decide_false]
def bytesH (b : List UInt8) : List HV := b.map fun x => .int .u8 x.toNat
structure Cp where
  c1 : Option Nat
  c2 : Option Nat
  o1 : Bool
  o2 : Bool
structure StoreAt (PS : PL) (p q u vp vq vu : Nat) (k : Cp) (us : List Bool) (bs : List (List UInt8)) : Prop where
  obj : getP PS p = .arr vp 2 [[.sl q vq 0 us.length k.c1, .sl u vu 0 us.length k.c2]] false
  used : getP PS u = .arr vu 1 (bools us) k.o2
  blk : getP PS q = .arr vq 256 (bs.map bytesH) k.o1
  len : bs.length = us.length
  all : ∀ b ∈ bs, b.length = 256
  few : us.length ≤ 256
  ne : p ≠ q ∧ p ≠ u ∧ q ≠ u
theorem ints_scoped (k : Nat) (t : Bool) (l : List Nat) : Scoped k (.imm t (ints l)) := by
  rw [scoped_imm]; intro r hr x hx; simp [ints] at hr; obtain ⟨b, _, rfl⟩ := hr; simp at hx; subst hx; exact .int _ _
theorem used_f (PS : PL) (p u vp vu : Nat) (l : List Bool) (x : HV) (c : Option Nat) (o : Bool) (h1 : getP PS p = .arr vp 2 [[x, .sl u vu 0 l.length c]] false) (h2 : getP PS u = .arr vu 1 (bools l) o) (hb : l.length ≤ 65536) :
    HCall Try.prog 23 [.ptr p vp 0 0] PS fun r PS' => r = .imm false (ints (usedOf l l.length)) ∧ PS' = PS := by
  refine HCall.data (ints_scoped _ _ _) (HCall.frz ((used_ PS p u vp vu l x c o h1 h2 hb).mono ?_))
  rintro r PS' ⟨ver, rfl, rfl⟩
  refine ⟨_, _, _, _, _, _, PS ++ [.dead], getP_last _ _, .sl 0 _ _ (by rw [ints_len]; omega), FrzPS.last0, ?_, Ext.app _ _⟩
  rw [List.drop_zero, List.take_of_length_le (by rw [ints_len]; exact Nat.le_refl _)]
theorem left_ (PS : PL) (p u vp vu : Nat) (l : List Bool) (x : HV) (c : Option Nat) (o : Bool) (h1 : getP PS p = .arr vp 2 [[x, .sl u vu 0 l.length c]] false) (h2 : getP PS u = .arr vu 1 (bools l) o) (hb : l.length ≤ 65536) :
    HCall Try.prog 14 [.ptr p vp 0 0] PS fun r PS' => r = .int .i64 (l.length - (usedOf l l.length).length) ∧ Ext [] PS PS' := by
  refine enter_14 (by unfold Try.f14; exact rfl) ?_
  simp (config := { maxSteps := 30000 }) only [go_sem, h1, h2, bools, Nat.zero_add, Nat.reduceAdd, Nat.reduceSub, Nat.reduceMul, Nat.reduceLeDiff, reduceCtorEq, ↓reduceIte, Nat.reduceEqDiff]
  refine pend_intro ((used_ PS p u vp vu l x c o h1 h2 hb).mono ?_)
  intro r PS' h
  obtain ⟨ver, hr, hp⟩ := h
  subst hr
  have hx : Ext [] PS PS' := hp ▸ Ext.app PS _
  have g1 := hx.get h1 (by simp)
  have g2 := hx.get h2 (by simp)
  have g3 : getP PS' PS.length = .arr ver 1 (ints (usedOf l l.length)) true := by rw [hp]; exact getP_last _ _
  have hl := usedOf_len l l.length
  simp (config := { maxSteps := 30000 }) only [go_sem, g1, g2, g3, hx, bools, Nat.zero_add, Nat.reduceAdd, Nat.reduceSub, Nat.reduceMul, Nat.reduceLeDiff, reduceCtorEq, ↓reduceIte, Nat.reduceEqDiff]
  omega
theorem new_ (PS : PL) (n : Nat) (h0 : 1 ≤ n) (h1 : n ≤ 256) :
    HCall Try.prog 8 [.int .i64 n] PS fun r PS' => r = .tup [.ptr (PS.length + 2) 0 0 0, .int .i64 0] ∧ Ext [] PS PS' ∧ ∃ q u, PS.length ≤ q ∧ PS.length ≤ u ∧ StoreAt PS' (PS.length + 2) q u 0 0 0 ⟨some n, some n, false, false⟩ (List.replicate n false) (List.replicate n (List.replicate 256 0)) := by
  refine enter_8 (by unfold Try.f8; exact rfl) ?_
  have e1 : ¬ (n : Int) < 1 := by omega
  have e2 : ¬ 256 < (n : Int) := by omega
  simp (config := { maxSteps := 30000 }) only [go_sem, e1, e2, bools, Nat.zero_add, Nat.reduceAdd, Nat.reduceSub, Nat.reduceMul, Nat.reduceLeDiff, reduceCtorEq, ↓reduceIte]
  have e3 : ∀ a b c : Piece, Ext [] PS (PS ++ [a] ++ [b] ++ [c]) := fun a b c => by have := Ext.app PS ([a] ++ ([b] ++ [c])); simpa using this
  have ga : ∀ a b c : Piece, getP (PS ++ [a] ++ [b] ++ [c]) PS.length = a := fun a b c => by simp [getP, List.getD]
  have gb : ∀ a b c : Piece, getP (PS ++ [a] ++ [b] ++ [c]) (PS.length + 1) = b := fun a b c => by simp [getP, List.getD]
  have gc : ∀ a b c : Piece, getP (PS ++ [a] ++ [b] ++ [c]) (PS.length + 2) = c := fun a b c => by simp [getP, List.getD, List.getElem?_append]
  have eb : bools (List.replicate n false) = List.replicate n [.bool false] := by simp [bools]
  have ez : (List.replicate n (List.replicate 256 (0 : UInt8))).map bytesH = List.replicate n (List.replicate 256 (.int .u8 0)) := by simp [bytesH]
  refine ⟨⟨by omega, by omega, by omega, by omega, by omega, by omega, by omega, by omega, e3 _ _ _, PS.length, PS.length + 1, by omega, by omega, ?_⟩, by omega, by omega, by omega, by omega, by omega, by omega, by omega, by omega, e3 _ _ _, PS.length + 1, PS.length, by omega, by omega, ?_⟩
  · exact ⟨by rw [gc]; simp, by rw [gb, eb]; simp, by rw [ga, ez]; simp, by simp, by simp, by simpa using h1, by omega, by omega, by omega⟩
  · exact ⟨by rw [gc]; simp, by rw [ga, eb]; simp, by rw [gb, ez]; simp, by simp, by simp, by simpa using h1, by omega, by omega, by omega⟩
end Go.Proofs.Ytpegkffdhpdciaa
