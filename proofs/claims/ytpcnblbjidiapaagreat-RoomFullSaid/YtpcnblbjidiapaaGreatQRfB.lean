/-
The law RoomFull, run: numbers and entries by name; for each of the two.
No conditions.
-/
import Derived.Test.YtpcnblbjidiapaaGreatQRfA
set_option linter.unusedSectionVars false
set_option linter.unusedSimpArgs false
set_option linter.unusedVariables false
namespace Go.Proofs.YtpcnblbjidiapaaGreat
open Go Go.Eng
set_option maxRecDepth 100000
structure RfIn (R1 R3 : List (List HV)) : Prop where
  n1 : R1 ≠ []
  s1 : ∀ r ∈ R1, r.length = 1
  l1 : R1.length ≤ 17592186044413
  f1 : Flat (.imm false R1)
  h3 : 2 ≤ R3.length ∧ R3.length ≤ 1000
  f3 : Flat (.imm false R3)
theorem flat_app {A B : List (List HV)} (ha : Flat (.imm false A)) (hb : Flat (.imm false B)) : Flat (.imm false (A ++ B)) := by
  cases ha with
  | imm _ _ ha =>
    cases hb with
    | imm _ _ hb =>
      refine .imm _ _ fun i l k x hi hk => ?_
      rw [List.getElem?_append] at hi
      split at hi
      · exact ha i l k x hi hk
      · exact hb _ l k x hi hk
theorem flat_lits : Flat (.imm false lits3) := by
  refine .imm _ _ fun i l k x hi hk => ?_
  match i, hi with
  | 0, hi => cases hi; (match k, hk with | 0, hk => cases hk; exact .int _ _)
  | 1, hi => cases hi; (match k, hk with | 0, hk => cases hk; exact .int _ _)
  | 2, hi => cases hi; (match k, hk with | 0, hk => cases hk; exact .int _ _)
  | n + 3, hi => cases hi
theorem flat_none : Flat (.imm false []) := .imm _ _ fun i l k x hi _ => by cases hi
noncomputable abbrev rfT (R1 R3 : List (List HV)) (h : RfIn R1 R3) : Toks where
  num _ := R3.length
  str _ := []
  lo _ := 2
  hi _ := 1000
  plus _ _ := none
  sum _ _ := none
  conv _ _ := none
  slen _ := none
  ord _ _ := none
  rem _ _ := none
  dt _ := false
  rows i := bif Nat.beq i 1 then R1 else bif Nat.beq i 2 then lits3 ++ R1 else bif Nat.beq i 3 then R3 else []
  rlen i := bif Nat.beq i 3 then some 0 else none
  cat E i := bif lBeq (lBeq (vBeq 9)) E lits3 && Nat.beq i 1 then some 2 else none
  rng _ := ⟨by have := h.h3; omega, by have := h.h3; omega⟩
  plus_ok _ _ _ h := by cases h
  sum_ok _ _ _ h := by cases h
  conv_ok _ _ _ h := by cases h
  slen_ok _ _ h := by cases h
  ord_ok _ _ _ h := by cases h
  rem_ok _ _ _ h := by cases h
  flat i := by
    cases Nat.beq i 1
    · cases Nat.beq i 2
      · cases Nat.beq i 3
        · exact flat_none
        · exact h.f3
      · exact flat_app flat_lits h.f1
    · exact h.f1
  rlen_ok i j hj := by
    cases hb : Nat.beq i 3
    · rw [hb] at hj; cases hj
    · rw [hb] at hj
      cases hj
      obtain rfl := Nat.eq_of_beq_eq_true hb
      rfl
  cat_ok E i j hj := by
    cases hb : (lBeq (lBeq (vBeq 9)) E lits3 && Nat.beq i 1)
    · rw [hb] at hj; cases hj
    · rw [hb] at hj
      cases hj
      rw [Bool.and_eq_true] at hb
      obtain rfl := Nat.eq_of_beq_eq_true hb.2
      letI : Toks := Toks.of (fun _ => 0) (fun _ => [])
      have e : E = lits3 := lBeq_eq _ _ (fun a b => lBeq_eq a b (vBeq_eq 9)) hb.1
      subst e
      exact ⟨rfl, rfl, h.n1, h.s1, by rw [List.length_append]; have := h.l1; show 3 + R1.length ≤ _; omega⟩
theorem rf_true (R1 R3 : List (List HV)) (h : RfIn R1 R3) (ok : @RfOk (rfT R1 R3 h)) : @HCall (rfT R1 R3 h) Tryz.prog 3 [.nam 1, .bool true] [] fun r _ => r = .bool true := by
  letI : Toks := rfT R1 R3 h
  exact trueRf (orcRfD_ok ok) (fuel := 100000) (d := 60) (by kernel_rfl)
theorem rf_false (R1 R3 : List (List HV)) (h : RfIn R1 R3) (ok : @RfOk (rfT R1 R3 h)) : @HCall (rfT R1 R3 h) Tryz.prog 3 [.nam 1, .bool false] [] fun r _ => r = .bool true := by
  letI : Toks := rfT R1 R3 h
  exact trueRf (orcRfD_ok ok) (fuel := 100000) (d := 60) (by kernel_rfl)
end Go.Proofs.YtpcnblbjidiapaaGreat
