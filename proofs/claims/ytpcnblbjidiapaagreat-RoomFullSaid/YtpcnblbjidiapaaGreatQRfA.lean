/-
The law RoomFull, run: numbers and entries by name; what is known of them is asked for.
No conditions.
-/
import Derived.Test.YtpcnblbjidiapaaGreatQRunR
import Derived.Test.YtpcnblbjidiapaaGreatQRunK
set_option linter.unusedSectionVars false
set_option linter.unusedSimpArgs false
set_option linter.unusedVariables false
namespace Go.Eng
open Go
theorem Sub.less [Toks] (t : Bool) (E : List (List HV)) : Sub (.imm t E) (.imm false E) := by
  intro M e w v hv
  cases hv with
  | imm _ _ a c b o sz val hc hm ht hn ha hb hsz h1c hcell hval => exact .imm false E a c b o sz val hc hm (fun h => by cases h) hn ha hb hsz h1c hcell hval
end Go.Eng
namespace Go.Proofs.YtpcnblbjidiapaaGreat
open Go Go.Eng
set_option maxRecDepth 100000
noncomputable def lits3 : List (List HV) := [[.int .i64 (.ofNat (nat_lit 0))], [.int .i64 (.ofNat (nat_lit 8))], [.int .i64 (.ofNat (nat_lit 16))]]
section
variable [Toks]
noncomputable def leafN : List HV := [.bool true, .nam (nat_lit 3), .imm true [], .imm true [], .imm true []]
/-- What runs ask for. -/
structure RfOk : Prop where
  leaf : Pure Tryz.prog 7 [.nam 2] (.agg leafN)
  fits : ∀ a b c, Pure Tryz.prog 31 [.agg [.bool true, .nam 3, .imm a [], .imm b [], .imm c []]] (.bool true)
  same : ∀ a b c a' b' c', Pure Tryz.prog 13 [.agg [.bool true, .nam 3, .imm a [], .imm b [], .imm c []], .agg [.bool true, .nam 3, .imm a' [], .imm b' [], .imm c' []]] (.bool true)
  clone : Pure Tryz.prog 101 [.nam 3] (.nam 3)
  aw : Pure Tryz.prog 17 [] (.bool true)
noncomputable def oLeafN (args : List HV) (m : Mem) : Option (List RM) :=
  match args with
  | [.nam i] => bif Nat.beq i 2 then some [(.agg leafN, m)] else none
  | _ => none
noncomputable def isLeafN (x : HV) : Bool :=
  match x with
  | .agg [.bool true, .nam i, .imm _ [], .imm _ [], .imm _ []] => Nat.beq i 3
  | _ => false
noncomputable def oFitsN (args : List HV) (m : Mem) : Option (List RM) :=
  match args with
  | [x] => bif isLeafN x then some [(.bool true, m)] else none
  | _ => none
noncomputable def oSameN (args : List HV) (m : Mem) : Option (List RM) :=
  match args with
  | [x, y] => bif isLeafN x && isLeafN y then some [(.bool true, m)] else none
  | _ => none
noncomputable def oClnN (args : List HV) (m : Mem) : Option (List RM) :=
  match args with
  | [.nam i] => bif Nat.beq i 3 then some [(.nam (nat_lit 3), m)] else none
  | _ => none
theorem isLeafN_h {x : HV} (h : isLeafN x = true) : ∃ a b c, x = .agg [.bool true, .nam 3, .imm a [], .imm b [], .imm c []] := by
  unfold isLeafN at h
  split at h
  · rw [beq_eq'] at h; subst h; exact ⟨_, _, _, rfl⟩
  · cases h
noncomputable def orcRf : EC := fun g args m =>
  bif Nat.beq g 101 then aOr (oClnN args m) (orcS g args m) else
  bif Nat.beq g 7 then oLeafN args m else
  bif Nat.beq g 31 then oFitsN args m else
  bif Nat.beq g 13 then oSameN args m else
  bif Nat.beq g 17 then (match args with | [] => some [(.bool true, m)] | _ => none) else orcS g args m
theorem orcRf_ok (h : RfOk) : ECOk Tryz.prog orcRf := by
  intro g args m L ho
  unfold orcRf at ho
  rcases cond_some ho with ⟨hg, ho⟩ | ho
  · rw [beq_eq'.1 hg] at ho ⊢
    cases h1 : oClnN args m with
    | none => rw [h1] at ho; exact orcS_ok _ _ _ _ ho
    | some r =>
      rw [h1] at ho
      have ho : some r = some L := ho
      cases ho
      unfold oClnN at h1
      split at h1
      · rename_i i
        rcases cond_some h1 with ⟨hb, h1⟩ | h1
        · cases h1; rw [beq_eq'.1 hb]; exact h.clone.way
        · cases h1
      · cases h1
  rcases cond_some ho with ⟨hg, ho⟩ | ho
  · rw [beq_eq'.1 hg]
    unfold oLeafN at ho
    split at ho
    · rename_i i
      rcases cond_some ho with ⟨hb, ho⟩ | ho
      · cases ho; rw [beq_eq'.1 hb]; exact h.leaf.way
      · cases ho
    · cases ho
  rcases cond_some ho with ⟨hg, ho⟩ | ho
  · rw [beq_eq'.1 hg]
    unfold oFitsN at ho
    split at ho
    · rename_i x
      rcases cond_some ho with ⟨hb, ho⟩ | ho
      · obtain ⟨a, b, c, rfl⟩ := isLeafN_h hb
        cases ho; exact (h.fits a b c).way
      · cases ho
    · cases ho
  rcases cond_some ho with ⟨hg, ho⟩ | ho
  · rw [beq_eq'.1 hg]
    unfold oSameN at ho
    split at ho
    · rename_i x y
      rcases cond_some ho with ⟨hb, ho⟩ | ho
      · rw [Bool.and_eq_true] at hb
        obtain ⟨a, b, c, rfl⟩ := isLeafN_h hb.1
        obtain ⟨a', b', c', rfl⟩ := isLeafN_h hb.2
        cases ho; exact (h.same a b c a' b' c').way
      · cases ho
    · cases ho
  rcases cond_some ho with ⟨hg, ho⟩ | ho
  · rw [beq_eq'.1 hg]
    split at ho
    · cases ho; exact h.aw.way
    · cases ho
  · exact orcS_ok _ _ _ _ ho
noncomputable def dsRf (g : FuncId) : Bool := Nat.beq g 11
noncomputable def orcRfD : EC := orcD Tryz.prog orcRf ecov epl 100000 60 dsRf 1
theorem orcRfD_ok (h : RfOk) : ECOk Tryz.prog orcRfD := orcD_ok mixed' (orcRf_ok h) covers 1
theorem trueRf {ec : EC} (hec : ECOk Tryz.prog ec) {g : FuncId} {args : List HV} {d fuel : Nat} (h : allTrue (acall Tryz.prog ec ecov epl fuel d g args ⟨.emp, 0⟩) = true) : HCall Tryz.prog g args [] fun r _ => r = .bool true := by
  cases hc : acall Tryz.prog ec ecov epl fuel d g args ⟨.emp, 0⟩ with
  | none => rw [hc] at h; cases h
  | some L =>
    rw [hc] at h
    have h : rAll isTrue L = true := h
    rw [rAll_eq] at h
    refine (acall_h mixed' hec covers d g args ⟨.emp, 0⟩ L hc).mono ?_
    rintro r PS ⟨x, hx, rfl, rfl⟩
    have := List.all_eq_true.1 h x hx
    obtain ⟨v, m⟩ := x
    unfold isTrue at this
    split at this
    · rename_i b m heq; cases heq; rw [this]
    · cases this
end
theorem lB_lits {E : List (List HV)} [Toks] (h : lBeq (lBeq (vBeq 9)) E lits3 = true) : E = lits3 := lBeq_eq _ _ (fun a b => lBeq_eq a b (vBeq_eq 9)) h
end Go.Proofs.YtpcnblbjidiapaaGreat
