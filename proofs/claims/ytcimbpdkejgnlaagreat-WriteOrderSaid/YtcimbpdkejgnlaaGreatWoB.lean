/-
  Writers in their order: a key by name, three bytes by their rests.
  No conditions.
-/
import Derived.Test.YtcimbpdkejgnlaaGreatWoA
import Derived.Test.YtcimbpdkejgnlaaGreatHlT
import Derived.Test.YtcimbpdkejgnlaaGreatRunQ
namespace Go.Eng
open Go Go.Mo
/-- Numbers by their base names: 0: the key's length; 3: the number; from 10 on: the key's bytes; from 40 on: the order's. -/
def woB (key : List UInt8) (v x y z : Int) : Nat → Int
  | 0 => key.length
  | 3 => v
  | 40 => x
  | 41 => y
  | 42 => z
  | n => if n < 18 then (((key ++ List.replicate 8 0).take 8).getD (n - 10) 0).toNat else 0
def woLo : Nat → Int
  | 3 => -9223372036854775808
  | _ => 0
def woHi : Nat → Int
  | 0 => 8
  | 3 => 9223372036854775807
  | _ => 255
structure WoIn (key : List UInt8) (v x y z : Int) (p q r : Nat) : Prop where
  k : key.length ≤ 8
  v : -9223372036854775808 ≤ v ∧ v ≤ 9223372036854775807
  x : (0 ≤ x ∧ x ≤ 255) ∧ x.tmod 3 = p
  y : (0 ≤ y ∧ y ≤ 255) ∧ y.tmod 3 = q
  z : (0 ≤ z ∧ z ≤ 255) ∧ z.tmod 3 = r
theorem woRng {key : List UInt8} {v x y z : Int} {p q r : Nat} (h : WoIn key v x y z p q r) (n : Nat) : woLo n ≤ woB key v x y z n ∧ woB key v x y z n ≤ woHi n := by
  have b : ∀ y : UInt8, (0 : Int) ≤ (y.toNat : Int) ∧ (y.toNat : Int) ≤ 255 := fun y => ⟨by omega, by have := y.toNat_lt; omega⟩
  unfold woB
  split
  · exact ⟨by simp [woLo], by have := h.k; simp only [woHi]; omega⟩
  · exact h.v
  · exact h.x.1
  · exact h.y.1
  · exact h.z.1
  · rename_i h0 h3 _ _ _
    have e1 : woLo n = 0 := by unfold woLo; split <;> first | contradiction | rfl
    have e2 : woHi n = 255 := by unfold woHi; split <;> first | contradiction | rfl
    rw [e1, e2]
    split
    · exact b _
    · omega
def woPlus (i : Nat) (b : Int) : Option Nat :=
  match b with
  | .ofNat b => bif Nat.blt (tDec i).1 1000 && Nat.blt ((tDec i).2 + b) 1000 then some (tEnc (tDec i).1 ((tDec i).2 + b)) else none
  | _ => none
def woRem (p q r : Nat) (i : Nat) (b : Int) : Option Int :=
  match i, b with
  | 40, .ofNat 3 => some p
  | 41, .ofNat 3 => some q
  | 42, .ofNat 3 => some r
  | _, _ => none
@[reducible] def woT (key : List UInt8) (v x y z : Int) (p q r : Nat) (h : WoIn key v x y z p q r) : Toks where
  num n := woB key v x y z (tDec n).1 + (tDec n).2
  str _ := []
  lo n := woLo (tDec n).1 + (tDec n).2
  hi n := woHi (tDec n).1 + (tDec n).2
  plus := woPlus
  sum _ _ := none
  conv i _ := some i
  slen _ := none
  ord _ _ := none
  rem := woRem p q r
  rng n := by have := woRng h (tDec n).1; omega
  plus_ok i b j hj := by
    unfold woPlus at hj
    split at hj
    · rename_i b
      cases hc : Nat.blt (tDec i).1 1000 && Nat.blt ((tDec i).2 + b) 1000
      · rw [hc] at hj; cases hj
      · rw [hc] at hj
        simp only [cond_true, Option.some.injEq] at hj
        rw [Bool.and_eq_true] at hc
        rw [← hj, tDec_enc (Nat.le_of_ble_eq_true hc.1) (Nat.le_of_ble_eq_true hc.2)]
        simp only [Int.ofNat_eq_natCast]
        omega
    · cases hj
  sum_ok i j l hl := by cases hl
  conv_ok i k j hj := by cases hj; rfl
  slen_ok i j hj := by cases hj
  ord_ok i j o h := by cases h
  rem_ok i b r' hr := by
    unfold woRem at hr
    split at hr
    · cases hr; show (x + 0).tmod 3 = p; rw [Int.add_zero]; exact h.x.2
    · cases hr; show (y + 0).tmod 3 = q; rw [Int.add_zero]; exact h.y.2
    · cases hr; show (z + 0).tmod 3 = r; rw [Int.add_zero]; exact h.z.2
    · cases hr
set_option linter.unusedSectionVars false
variable [Toks]
/-- What the names are names of. -/
structure WoOk (key : Bs) (v : Int) : Prop where
  n0 : Toks.num 0 = (key.length : Int)
  bk : ∀ i, i < 8 → Toks.num (10 + i) = (((pad 8 key).getD i 0).toNat : Int)
  n3 : Toks.num 3 = v
  hk : key.length ≤ 8
theorem WoOk.kS {key : Bs} {v : Int} (h : WoOk key v) : SubL (keyL key) keyT ∧ SubL keyT (keyL key) := by
  have := subTok (pad 8 key) 10 (by rw [pad_len]; exact h.bk)
  rw [pad_len] at this
  exact ⟨⟨Sub.tok h.n0, this.1⟩, ⟨Sub.untok h.n0, this.2⟩⟩
noncomputable def oKey (args : List HV) (m : Mem) : Option (List RM) :=
  match args with
  | [.tok .i64 i] => bif Nat.beq i 3 then some [(.agg keyT, m)] else none
  | _ => none
noncomputable def oCmpT (args : List HV) (m : Mem) : Option (List RM) :=
  match args with
  | [.agg l, .agg r] => on (lBeq (vBeq 9) l keyT && lBeq (vBeq 9) r keyT) (some [(.int .i64 (.ofNat (nat_lit 0)), m)])
  | _ => none
end Go.Eng
namespace Go.Proofs.YtcimbpdkejgnlaaGreat
open Go Go.Eng Go.Mo
set_option linter.unusedSectionVars false
set_option maxRecDepth 100000
theorem cmp_self (k : Bs) : cmpB k k = 0 := by
  induction k with
  | nil => rfl
  | cons a k ih => simp only [cmpB, Lib.compareBytes, UInt8.lt_irrefl, if_false]; exact ih
section
variable [Toks]
theorem awake20_run : HCall Tryz.prog 52 [] [] fun r _ => r = .bool true := trueG (orcE_ok orcS_ok) (fuel := 100000) (d := 60) (by kernel_rfl)
theorem awake20 : Pure Tryz.prog 52 [] (.bool true) := Pure.of_nil (by simp) (.bool _) awake20_run
variable {key : Bs} {v : Int} {args : List HV} {m : Mem} {L : List RM}
theorem oKey_h (h : WoOk key v) (hp : Pure Tryz.prog 29 [.int .i64 v] (.agg (keyL key))) (ho : oKey args m = some L) : HCall Tryz.prog 29 args m.pl fun v PS => ∃ x ∈ L, v = x.1 ∧ PS = x.2.pl := by
  unfold oKey at ho
  split at ho
  · rename_i i
    rcases cond_some ho with ⟨hb, ho⟩ | ho
    · cases ho
      rw [beq_eq'.1 hb]
      refine HCall.res (HCall.sub (args := [.int .i64 v]) ⟨Sub.untok h.n3, trivial⟩ (hp.way (m := m))) ?_
      rintro x PS ⟨y, hy, rfl, rfl⟩
      cases List.mem_singleton.1 hy
      exact ⟨_, Sub.agg h.kS.1, _, List.mem_singleton.2 rfl, rfl, rfl⟩
    · cases ho
  · cases ho
theorem oKchW_h (h : WoOk key v) (ho : oChk keyT true args m = some L) : HCall Tryz.prog 414 args m.pl fun v PS => ∃ x ∈ L, v = x.1 ∧ PS = x.2.pl := by
  unfold oChk at ho
  split at ho
  · simp only [on_some, Bool.and_eq_true, Option.some.injEq] at ho
    obtain ⟨⟨_, h3⟩, rfl⟩ := ho
    rw [lBeq_eq _ _ (vBeq_eq 9) h3]
    exact HCall.sub (args := [.agg (keyL key)]) ⟨Sub.agg h.kS.2, trivial⟩ ((key_check key h.hk).way (m := m))
  · cases ho
theorem oCmpT_h (h : WoOk key v) (ho : oCmpT args m = some L) : HCall Tryz.prog 265 args m.pl fun v PS => ∃ x ∈ L, v = x.1 ∧ PS = x.2.pl := by
  unfold oCmpT at ho
  split at ho
  · simp only [on_some, Bool.and_eq_true, Option.some.injEq] at ho
    obtain ⟨⟨h2, h3⟩, rfl⟩ := ho
    rw [lBeq_eq _ _ (vBeq_eq 9) h2, lBeq_eq _ _ (vBeq_eq 9) h3]
    have := (key_cmp key key h.hk h.hk).way (m := m)
    rw [cmp_self] at this
    exact HCall.sub (args := [.agg (keyL key), .agg (keyL key)]) ⟨Sub.agg h.kS.2, Sub.agg h.kS.2, trivial⟩ this
  · cases ho
noncomputable def orcW : EC := fun g args m =>
  bif Nat.beq g 29 then oKey args m else
  bif Nat.beq g 414 then oChk keyT true args m else
  bif Nat.beq g 265 then oCmpT args m else
  bif Nat.beq g 52 then (match args with | [] => some [(.bool true, m)] | _ => none) else orcE orcS g args m
theorem orcW_ok (h : WoOk key v) (hp : Pure Tryz.prog 29 [.int .i64 v] (.agg (keyL key))) : ECOk Tryz.prog orcW := by
  intro g args m L ho
  unfold orcW at ho
  rcases cond_some ho with ⟨hg, ho⟩ | ho
  · rw [beq_eq'.1 hg]; exact oKey_h h hp ho
  rcases cond_some ho with ⟨hg, ho⟩ | ho
  · rw [beq_eq'.1 hg]; exact oKchW_h h ho
  rcases cond_some ho with ⟨hg, ho⟩ | ho
  · rw [beq_eq'.1 hg]; exact oCmpT_h h ho
  rcases cond_some ho with ⟨hg, ho⟩ | ho
  · rw [beq_eq'.1 hg]
    split at ho
    · cases ho; exact awake20.way
    · cases ho
  · exact orcE_ok orcS_ok _ _ _ _ ho
end
theorem woOk {key : Bs} {v x y z : Int} {p q r : Nat} (h : WoIn key v x y z p q r) : @WoOk (woT key v x y z p q r h) key v := by
  letI : Toks := woT key v x y z p q r h
  refine ⟨?_, ?_, ?_, h.k⟩
  · show (key.length : Int) + 0 = key.length; omega
  · intro i hi
    have : i = 0 ∨ i = 1 ∨ i = 2 ∨ i = 3 ∨ i = 4 ∨ i = 5 ∨ i = 6 ∨ i = 7 := by omega
    rcases this with rfl | rfl | rfl | rfl | rfl | rfl | rfl | rfl <;> rfl
  · show v + 0 = v; omega
end Go.Proofs.YtcimbpdkejgnlaaGreat
