import Derived.Test.YtpegkffdhpdciaaEngY
import Derived.Test.YtpegkffdhpdciaaFacts
namespace Go.Proofs.Ytpegkffdhpdciaa
open Go Go.Eng
set_option maxRecDepth 20000
set_option linter.unusedSimpArgs false
attribute [local irreducible] hvc hops hop hplan hval1 hopD HLoop
/-- The numbers of the first n of a list that are true. -/
def usedOf (l : List Bool) : Nat → List Nat
  | 0 => []
  | n + 1 => usedOf l n ++ (if l[n]? = some true then [n] else [])
def ints (l : List Nat) : List (List HV) := l.map fun (n : Nat) => [.int .i64 n]
def bools (l : List Bool) : List (List HV) := l.map fun b => [.bool b]
theorem usedOf_len (l : List Bool) (n : Nat) : (usedOf l n).length ≤ n := by
  induction n with
  | zero => simp [usedOf]
  | succ n ih => simp only [usedOf, List.length_append]; split <;> simp <;> omega
theorem ints_len (l : List Nat) : (ints l).length = l.length := by simp [ints]
theorem used_ (PS : PL) (p u vp vu : Nat) (l : List Bool) (x : HV) (c : Option Nat) (o : Bool) (h1 : getP PS p = .arr vp 2 [[x, .sl u vu 0 l.length c]] false) (h2 : getP PS u = .arr vu 1 (bools l) o) (hb : l.length ≤ 65536) :
    HCall Try.prog 23 [.ptr p vp 0 0] PS fun r PS' => ∃ ver, r = .sl PS.length ver 0 (usedOf l l.length).length none ∧ PS' = PS ++ [.arr ver 1 (ints (usedOf l l.length)) true] := by
  refine enter_23 (by unfold Try.f23; exact rfl) ?_
  simp (config := { maxSteps := 30000 }) only [go_sem, h1, h2, Nat.reduceAdd, Nat.reduceSub, Nat.reduceMul, Nat.reduceLeDiff, reduceCtorEq, ↓reduceIte]
  intro hl
  refine pend_intro (loop_weak (Weak.nil (d := 3) 1 rfl) ?_)
  refine loop_rule (α := Nat × Nat) [false, false, false, false, true, true, false, false, false, false, false, false, true, true, true, true, true, true, true, true, true, true] (fun a => [(11, .int .i64 a.1), (3, .sl PS.length a.2 0 (usedOf l a.1).length none)]) (fun a => l.length - a.1) (fun a PS' => a.1 ≤ l.length ∧ PS' = PS ++ [.arr a.2 1 (ints (usedOf l a.1)) true]) (0, 0) ⟨Nat.zero_le _, rfl⟩ ?_ ?_
  · simp only [go_sem, Nat.reduceAdd, usedOf, Int.natCast_zero]
  · intro a PS' h
    have hi := h.1
    have he := h.2
    obtain ⟨i, ver⟩ := a
    subst he
    clear h
    simp only at hi
    have g1 := getP_app [.arr ver 1 (ints (usedOf l i)) true] h1
    have g2 := getP_app [.arr ver 1 (ints (usedOf l i)) true] h2
    have hul := usedOf_len l i
    by_cases hlt : i < l.length
    · have hb : l[i]? = some l[i] := by simp [hlt]
      simp (config := { maxSteps := 30000 }) only [go_sem, g1, g2, bools, hb, Int.toNat_natCast, Nat.zero_add, getP_last, set_last, Nat.reduceAdd, Nat.reduceSub, Nat.reduceMul, Nat.reduceLeDiff, reduceCtorEq, ↓reduceIte, Int.ofNat_lt, hlt, ints_len, HV.sl.injEq, HV.int.injEq, List.append_cancel_left_eq, List.cons.injEq, Piece.arr.injEq]
      refine ⟨by omega, ?_⟩
      split
      · rename_i ht
        have e : usedOf l (i + 1) = usedOf l i ++ [i] := by simp [usedOf, hb, ht]
        refine ⟨by omega, by simp, by omega, by omega, ⟨i + 1, ver + 1⟩, ?_⟩
        simp only [e]
        exact ⟨by omega, ⟨by omega, trivial, by simp [ints]⟩, ⟨trivial, by simp⟩, by omega⟩
      · rename_i hf
        have e : usedOf l (i + 1) = usedOf l i := by simp [usedOf, hb, hf]
        refine ⟨by omega, ⟨i + 1, ver⟩, ?_⟩
        simp only [e]
        exact ⟨by omega, ⟨by omega, trivial, trivial⟩, ⟨trivial, trivial⟩, by omega⟩
    · have hil : i = l.length := by omega
      subst hil
      simp (config := { maxSteps := 30000 }) only [go_sem, g1, g2, bools, getP_last, set_last, Nat.reduceAdd, Nat.reduceSub, Nat.reduceMul, Nat.reduceLeDiff, reduceCtorEq, ↓reduceIte, Int.lt_irrefl]
      exact ⟨ver, rfl, rfl⟩
end Go.Proofs.Ytpegkffdhpdciaa
