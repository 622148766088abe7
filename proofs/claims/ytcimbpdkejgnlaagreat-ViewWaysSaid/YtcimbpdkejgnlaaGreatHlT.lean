/-
  Two texts and two numbers by name: what is known of them, by tables.
  No conditions.
-/
import Derived.Test.YtcimbpdkejgnlaaGreatDm
namespace Go.Mo
open Go Go.Eng
def tDec (n : Nat) : Nat × Nat := bif Nat.blt n 1000 then (n, 0) else (n / 1000 - 1, n % 1000)
def tEnc (x c : Nat) : Nat := bif Nat.beq c 0 then x else 1000 * (x + 1) + c
theorem tDec_enc {x c : Nat} (hx : x < 1000) (hc : c < 1000) : tDec (tEnc x c) = (x, c) := by
  unfold tDec tEnc
  cases hb : Nat.beq c 0
  · have h0 : c ≠ 0 := fun h => by rw [h] at hb; cases hb
    simp only [cond_false]
    have h1 : Nat.blt (1000 * (x + 1) + c) 1000 = false := by
      cases h2 : Nat.blt (1000 * (x + 1) + c) 1000
      · rfl
      · have := Nat.le_of_ble_eq_true h2; omega
    rw [h1]
    simp only [cond_false, Prod.mk.injEq]
    omega
  · have h0 : c = 0 := Nat.eq_of_beq_eq_true hb
    subst h0
    simp only [cond_true]
    have h1 : Nat.blt x 1000 = true := Nat.ble_eq_true_of_le hx
    rw [h1]; rfl
/-- Numbers by their base names: 0, 1: the texts' lengths; 2: a rest; 3, 5: the numbers; 4: both lengths; from 10 on: bytes. -/
def numB (key val : List UInt8) (v kd : Int) : Nat → Int
  | 0 => key.length
  | 1 => val.length
  | 2 => v % 99
  | 3 => v
  | 4 => key.length + val.length
  | 5 => kd
  | x => if x < 18 then (((key ++ List.replicate 8 0).take 8).getD (x - 10) 0).toNat else (((val ++ List.replicate 16 0).take 16).getD (x - 20) 0).toNat
def loB (kl vl : Int) : Nat → Int
  | 0 => kl
  | 1 => vl
  | 3 => -9223372036854775808
  | 4 => kl + vl
  | 5 => -9223372036854775808
  | _ => 0
def hiB (kh vh : Int) : Nat → Int
  | 0 => kh
  | 1 => vh
  | 2 => 98
  | 3 => 9223372036854775807
  | 4 => kh + vh
  | 5 => 9223372036854775807
  | _ => 255
structure HlIn (key val : List UInt8) (v kd kl kh vl vh : Int) : Prop where
  k : kl ≤ key.length ∧ (key.length : Int) ≤ kh
  w : vl ≤ val.length ∧ (val.length : Int) ≤ vh
  v : -9223372036854775808 ≤ v ∧ v ≤ 9223372036854775807
  kd : -9223372036854775808 ≤ kd ∧ kd ≤ 9223372036854775807
theorem rngB {key val : List UInt8} {v kd kl kh vl vh : Int} (h : HlIn key val v kd kl kh vl vh) : ∀ x, loB kl vl x ≤ numB key val v kd x ∧ numB key val v kd x ≤ hiB kh vh x
  | 0 => h.k
  | 1 => h.w
  | 2 => ⟨Int.emod_nonneg _ (by decide), by have := Int.emod_lt_of_pos v (b := 99) (by decide); show v % 99 ≤ 98; omega⟩
  | 3 => h.v
  | 4 => ⟨by have := h.k; have := h.w; show kl + vl ≤ (key.length : Int) + val.length; omega, by have := h.k; have := h.w; show (key.length : Int) + val.length ≤ kh + vh; omega⟩
  | 5 => h.kd
  | x + 6 => by
    have b : ∀ y : UInt8, (0 : Int) ≤ (y.toNat : Int) ∧ (y.toNat : Int) ≤ 255 := fun y => ⟨by omega, by have := y.toNat_lt; omega⟩
    show 0 ≤ (if x + 6 < 18 then _ else _ : Int) ∧ (if x + 6 < 18 then _ else _ : Int) ≤ 255
    split <;> exact b _
def plusT (i : Nat) (b : Int) : Option Nat :=
  match b with
  | .ofNat b => bif Nat.blt (tDec i).1 1000 && Nat.blt ((tDec i).2 + b) 1000 then some (tEnc (tDec i).1 ((tDec i).2 + b)) else none
  | _ => none
def sumT (i j : Nat) : Option Nat :=
  match (tDec i).1, (tDec j).1 with
  | 0, 1 => bif Nat.blt ((tDec i).2 + (tDec j).2) 1000 then some (tEnc 4 ((tDec i).2 + (tDec j).2)) else none
  | 1, 0 => bif Nat.blt ((tDec i).2 + (tDec j).2) 1000 then some (tEnc 4 ((tDec i).2 + (tDec j).2)) else none
  | _, _ => none
def slenT (i : Nat) : Option Nat :=
  match i with
  | 0 => some 0
  | 1 => some 1
  | _ => none
def remT (i : Nat) (b : Int) : Option Int :=
  match i, b with
  | 3, .ofNat 1 => some 0
  | _, _ => none
@[reducible] def hlT (key val : List UInt8) (v kd kl kh vl vh : Int) (h : HlIn key val v kd kl kh vl vh) : Toks where
  num n := numB key val v kd (tDec n).1 + (tDec n).2
  str n := bif Nat.beq n 0 then key else val
  lo n := loB kl vl (tDec n).1 + (tDec n).2
  hi n := hiB kh vh (tDec n).1 + (tDec n).2
  plus := plusT
  sum := sumT
  conv i _ := some i
  slen := slenT
  ord _ _ := none
  rem := remT
  rng n := by have := rngB h (tDec n).1; omega
  plus_ok i b j hj := by
    unfold plusT at hj
    split at hj
    · rename_i b
      cases hc : Nat.blt (tDec i).1 1000 && Nat.blt ((tDec i).2 + b) 1000
      · rw [hc] at hj; cases hj
      · rw [hc] at hj
        simp only [cond_true, Option.some.injEq] at hj
        rw [Bool.and_eq_true] at hc
        rw [← hj, tDec_enc (Nat.le_of_ble_eq_true hc.1) (Nat.le_of_ble_eq_true hc.2)]
        simp only [Int.ofNat_eq_natCast]
        omega
    · cases hj
  sum_ok i j l hl := by
    unfold sumT at hl
    split at hl
    · rename_i h1 h2
      cases hc : Nat.blt ((tDec i).2 + (tDec j).2) 1000
      · rw [hc] at hl; cases hl
      · rw [hc] at hl
        simp only [cond_true, Option.some.injEq] at hl
        rw [← hl, tDec_enc (by omega) (Nat.le_of_ble_eq_true hc), h1, h2]
        show ((key.length : Int) + val.length) + _ = ((key.length : Int) + _) + ((val.length : Int) + _)
        omega
    · rename_i h1 h2
      cases hc : Nat.blt ((tDec i).2 + (tDec j).2) 1000
      · rw [hc] at hl; cases hl
      · rw [hc] at hl
        simp only [cond_true, Option.some.injEq] at hl
        rw [← hl, tDec_enc (by omega) (Nat.le_of_ble_eq_true hc), h1, h2]
        show ((key.length : Int) + val.length) + _ = ((val.length : Int) + _) + ((key.length : Int) + _)
        omega
    · cases hl
  conv_ok i k j hj := by cases hj; rfl
  slen_ok i j hj := by
    unfold slenT at hj
    split at hj
    · cases hj; show (key.length : Int) + 0 = key.length; omega
    · cases hj; show (val.length : Int) + 0 = val.length; omega
    · cases hj
  ord_ok i j o h := by cases h
  rem_ok i b r hr := by
    unfold remT at hr
    split at hr
    · cases hr
      show (v + 0).tmod 1 = 0
      simp
    · cases hr
end Go.Mo
