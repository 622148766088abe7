/-
The code of the leaf that has nothing, both sides, run.
No conditions.
-/
import Derived.Test.YtajjhaidpagflaaGreatQTbB
set_option linter.unusedSectionVars false
set_option linter.unusedSimpArgs false
set_option linter.unusedVariables false
namespace Go.Proofs.YtajjhaidpagflaaGreat
open Go Go.Eng
set_option maxRecDepth 100000
variable [Toks]
noncomputable def allOf (Q:RM→Bool) (l:Option (List RM)):Bool:=Option.rec (motive:=fun _=>Bool) false (fun l=>rAll Q l) l
theorem runS {Q:RM→Bool} {g:FuncId} {args:List HV} {d fuel:Nat} (h:allOf Q (acall Tryz.prog orcS ecov epl fuel d g args ⟨.emp,0⟩)=true):HCall Tryz.prog g args [] fun r PS=>∃m:Mem,Q (r,m)=true∧PS=m.pl:=by
  cases hc:acall Tryz.prog orcS ecov epl fuel d g args ⟨.emp,0⟩ with
  | none=>rw[hc] at h;cases h
  | some L=>
    rw[hc] at h
    have h:rAll Q L=true:=h
    rw[rAll_eq] at h
    refine(acall_h mixed' orcS_ok covers d g args ⟨.emp,0⟩ L hc).mono ?_
    rintro r PS ⟨x,hx,rfl,rfl⟩
    exact⟨x.2,List.all_eq_true.1 h x hx,rfl⟩
theorem zW_sc:∀r∈zW,∀x∈r,Scoped 0 x:=by
  have h:(zW.all fun r=>r.all (scB 0 2))=true:=by kernel_rfl
  intro r hr x hx
  exact scB_h 0 2 x (List.all_eq_true.1 (List.all_eq_true.1 h r hr) x hx)
noncomputable def isZ (x:RM):Bool:=
  match x with
  | (.tup [.sl n ver i len _,.int .i64 (.ofNat e)],m)=>Nat.beq i 0&&Nat.beq len 256&&Nat.beq e 0&&(match m.get n with
    | .arr ver' _ E _=>Nat.beq ver ver'&&rwsEq (E.take 256) zW&&Nat.ble 256 E.length
    | _=>false)
  | _=>false
noncomputable def isN (x:RM):Bool:=
  match x with
  | (.tup [.agg [.bool true,.imm _ [],.imm _ [],.imm _ [],.imm _ []],.int .i64 (.ofNat e)],_)=>Nat.beq e 0
  | _=>false
theorem none_sc:Scoped 0 noneW:=by
  unfold noneW
  rw[scoped_agg]
  intro x hx
  simp only[List.mem_cons,List.not_mem_nil,or_false] at hx
  rcases hx with rfl | rfl | rfl | rfl | rfl
  · exact .bool _
  all_goals (unfold nilW;rw[scoped_imm];intro r hr;cases hr)
/-- The code of the leaf that has nothing. -/
theorem encW {g:Nat} (h:allOf isZ (acall Tryz.prog orcS ecov epl 100000 60 g [noneW] ⟨.emp,0⟩)=true):Pure Tryz.prog g [noneW] (.tup [.imm false zW,iW (nat_lit 0)]):=by
  refine Pure.of_frz (by simpa using none_sc) ?_ ((runS h).mono ?_)
  · rw[scoped_tup]
    intro x hx
    simp only[List.mem_cons,List.not_mem_nil,or_false] at hx
    rcases hx with rfl | rfl
    · exact scoped_imm.2 zW_sc
    · exact .int _ _
  · rintro r PS ⟨m,h,rfl⟩
    unfold isZ at h
    split at h
    · rename_i n ver i len c e m' heq
      cases heq
      simp only[Bool.and_eq_true,beq_eq'] at h
      obtain⟨⟨⟨rfl,rfl⟩,rfl⟩,h⟩:=h
      split at h
      · rename_i ver' sz E opn hg
        simp only[Bool.and_eq_true,beq_eq',ble_le] at h
        obtain⟨⟨rfl,h⟩,hl⟩:=h
        have he:=rwsEq_eq h
        refine⟨n,ver,sz,_,opn,by rw[Mem.get_eq];exact hg,FrzL.tup (.cons ?_ (.cons (.same _) (.nil ..)))⟩
        have:=FrzV.sl (n:=n) (ver:=ver) (E:=E) 0 256 c (by omega)
        rw[List.drop_zero,he] at this
        exact this
      · cases h
    · cases h
theorem decW {g:Nat} (h:allOf isN (acall Tryz.prog orcS ecov epl 100000 60 g [.imm false zW] ⟨.emp,0⟩)=true):Pure Tryz.prog g [.imm false zW] (.tup [noneW,iW (nat_lit 0)]):=by
  refine Pure.of_nil (by intro x hx;simp only[List.mem_cons,List.not_mem_nil,or_false] at hx;subst hx;exact scoped_imm.2 zW_sc) ?_ (HCall.res (runS h) ?_)
  · rw[scoped_tup]
    intro x hx
    simp only[List.mem_cons,List.not_mem_nil,or_false] at hx
    rcases hx with rfl | rfl
    · exact none_sc
    · exact .int _ _
  · rintro r PS ⟨m,h,rfl⟩
    unfold isN at h
    split at h
    · rename_i a b c d e m' heq
      cases heq
      rw[beq_eq'] at h
      subst h
      exact⟨_,Sub.tup (r:=[noneW,iW (nat_lit 0)]) ⟨Sub.agg ⟨Sub.refl _,Sub.less _ _,Sub.less _ _,Sub.less _ _,Sub.less _ _,trivial⟩,Sub.refl _,trivial⟩,rfl⟩
    · cases h
theorem enc_run:allOf isZ (acall Tryz.prog orcS ecov epl 100000 60 109 [noneW] ⟨.emp,0⟩)=true:=by kernel_rfl
theorem dec_run:allOf isN (acall Tryz.prog orcS ecov epl 100000 60 78 [.imm false zW] ⟨.emp,0⟩)=true:=by kernel_rfl
theorem renc_run:allOf isZ (acall Tryz.prog orcS ecov epl 100000 60 55 [noneW] ⟨.emp,0⟩)=true:=by kernel_rfl
theorem rdec_run:allOf isN (acall Tryz.prog orcS ecov epl 100000 60 138 [.imm false zW] ⟨.emp,0⟩)=true:=by kernel_rfl
end Go.Proofs.YtajjhaidpagflaaGreat
