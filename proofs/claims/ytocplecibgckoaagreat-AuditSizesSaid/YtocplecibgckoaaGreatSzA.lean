import Derived.Test.YtocplecibgckoaaGreatRunH
import Derived.Test.YtocplecibgckoaaGreatFactsC
import Derived.Test.YtocplecibgckoaaGreatEngZ
namespace Go.Eng
open Go
/-- An operation of a script. -/
structure OpH where
  kind : Int
  key : List UInt8
  val : List UInt8
  by' : Int
def opRow (o : OpH) : List HV := [.int .i64 o.kind, .str o.key, .str o.val, .int .u64 o.by']
def opRows (l : List OpH) : List (List HV) := l.map opRow
def opsRows (O : List (List OpH)) : List (List HV) := O.map fun l => [.imm false (opRows l)]
def opLarge (o : OpH) : Bool := decide (8 < o.key.length) || (decide (o.kind = 1) && decide (16 < o.val.length))
def opSize (o : OpH) : Nat :=
  if o.kind = 4 ∨ opLarge o = true then 0
  else 2 + o.key.length + (if o.kind = 1 then o.val.length else if o.kind = 3 then 8 else 0)
def lSize : List OpH → Nat
  | [] => 0
  | o :: l => opSize o + lSize l
def oSize : List (List OpH) → Nat
  | [] => 0
  | l :: O => lSize l + oSize O
theorem lSize_app (a b : List OpH) : lSize (a ++ b) = lSize a + lSize b := by
  induction a with
  | nil => simp [lSize]
  | cons x a ih => simp only [List.cons_append, lSize, ih]; omega
theorem oSize_app (a b : List (List OpH)) : oSize (a ++ b) = oSize a + oSize b := by
  induction a with
  | nil => simp [oSize]
  | cons x a ih => simp only [List.cons_append, oSize, ih]; omega
theorem lSize_take (l : List OpH) (i : Nat) (h : i < l.length) : lSize (l.take (i + 1)) = lSize (l.take i) + opSize l[i] := by
  rw [List.take_succ_eq_append_getElem h, lSize_app]; simp [lSize]
theorem oSize_take (O : List (List OpH)) (i : Nat) (h : i < O.length) : oSize (O.take (i + 1)) = oSize (O.take i) + lSize O[i] := by
  rw [List.take_succ_eq_append_getElem h, oSize_app]; simp [oSize]
theorem opSize_le (o : OpH) : opSize o ≤ 26 := by
  unfold opSize opLarge
  split
  · omega
  · rename_i h
    simp only [not_or, Bool.or_eq_true, Bool.and_eq_true, decide_eq_true_eq, not_and] at h
    split
    · have := h.2.2 (by assumption); omega
    · split <;> omega
theorem lSize_le (l : List OpH) : lSize l ≤ 26 * l.length := by
  induction l with
  | nil => simp [lSize]
  | cons o l ih => have := opSize_le o; simp only [lSize, List.length_cons]; omega
theorem oSize_le (O : List (List OpH)) (k : Nat) (h : ∀ l ∈ O, l.length ≤ k) : oSize O ≤ 26 * k * O.length := by
  induction O with
  | nil => simp [oSize]
  | cons l O ih =>
    have h1 := ih (fun x hx => h x (List.mem_cons_of_mem _ hx))
    have h2 := h l (List.mem_cons_self ..)
    have h3 := lSize_le l
    have h4 : 26 * l.length ≤ 26 * k := by omega
    simp only [oSize, List.length_cons, Nat.mul_add]; omega
/-- So few operations. -/
def fewO (O : List (List OpH)) : Bool := decide (O.length ≤ 8) && O.all fun l => decide (l.length ≤ 40)
end Go.Eng
