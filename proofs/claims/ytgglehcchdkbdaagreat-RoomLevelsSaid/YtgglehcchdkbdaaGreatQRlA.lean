/-
Numbers that make a buffer heavy ahead of others; the code of the leaf that has nothing, both sides, run.
The code of the leaf that has nothing, run: both sides.
No conditions.
-/
import Derived.Test.YtgglehcchdkbdaaGreatQRlB
import Derived.Test.YtgglehcchdkbdaaGreatQHm4
set_option linter.unusedSectionVars false
set_option linter.unusedSimpArgs false
set_option linter.unusedVariables false
namespace Go.Proofs.YtgglehcchdkbdaaGreat
open Go Go.Eng Go.Ow
open Go.Mo
set_option maxRecDepth 100000
variable [Toks]
def hvI:List Int:=[24,56,88,120,152,184,216,248]
noncomputable def isHv (x:RM):Bool:=
  match x with
  | (.imm _ E,_)=>rwsEq E (hvI.map kidL)
  | _=>false
theorem heavy_run:allOf isHv (acall Tryz.prog orcS ecov epl 100000 60 5 [nilW] ⟨.emp,0⟩)=true:=by kernel_rfl
set_option maxRecDepth 20000
attribute [local irreducible] hvc hops hop hplan hdrawP hval1 hopD HLoop
theorem gen_heavy (t:Bool) (l:List Int) (hl:l.length≤17592186044400):Pure Tryz.prog 5 [.imm t (l.map kidL)] (.imm false ((hvI++l).map kidL)):=by
  have sc:∀(l:List Int),Scoped 0 (.imm false (l.map kidL)):=fun l=>sc_rows _ kidL _ fun a x hx=>by simp[kidL] at hx;subst hx;exact .int _ _
  by_cases h0:l=[]
  · subst h0
    refine Pure.sub (args:=[nilW]) (Pure.of_nil (by intro x hx;simp only[List.mem_cons,List.not_mem_nil,or_false] at hx;subst hx;exact sc []) (sc _) (HCall.res (runS heavy_run) ?_)) ⟨Sub.less _ _,trivial⟩
    rintro r PS ⟨m,h,rfl⟩
    unfold isHv at h
    split at h
    · rename_i t' E m' heq
      cases heq
      rw[rwsEq_eq h]
      exact⟨_,Sub.less _ _,by rw[List.append_nil]⟩
    · cases h
  · have h1:Pure Tryz.prog 5 [.imm t (l.map kidL)] (.imm (decide ((hvI++l).map kidL=[])) ((hvI++l).map kidL)):=fun PS=>by
      refine Bld.done (s:=1) (by intro x hx y hy;obtain⟨a,_,rfl⟩:=List.mem_map.1 hx;rw[List.mem_singleton.1 hy];exact .int _ _) ?_
      have hmx:maxLen=9223372036854775807:=rfl
      have hpos:0<l.length:=List.length_pos_iff.2 h0
      refine enter_5 (by unfold Tryz.f5;exact rfl) ?_
      simp only[go_sem,seval, -List.reduceReplicate,List.length_map,hpos]
      refine⟨fun r hr=>by obtain⟨a,_,rfl⟩:=List.mem_map.1 hr;rfl,by simp,⟨by omega,by omega⟩,.inr ⟨by simp[hvI],PS.length,0,?_,Nat.le_refl _,?_⟩,fun r hr=>by obtain⟨a,_,rfl⟩:=List.mem_map.1 hr;rfl,Ext.app _ _⟩
      · rw[List.length_map,List.length_append];rfl
      · exact(getP_last _ _).trans (by simp[hvI,kidL])
    exact Pure.res h1 (Sub.less _ _)
theorem zW_sc:∀r∈zW,∀x∈r,Scoped 0 x:=by
  have h:(zW.all fun r=>r.all (scB 0 2))=true:=by kernel_rfl
  intro r hr x hx
  exact scB_h 0 2 x (List.all_eq_true.1 (List.all_eq_true.1 h r hr) x hx)
noncomputable def isZ (x:RM):Bool:=
  match x with
  | (.tup [.sl n ver i len _,.int .i64 (.ofNat e)],m)=>Nat.beq i 0&&Nat.beq len 256&&Nat.beq e 0&&(match m.get n with
    | .arr ver' _ E _=>Nat.beq ver ver'&&rwsEq (E.take 256) zW&&Nat.ble 256 E.length
    | _=>false)
  | _=>false
noncomputable def isN (x:RM):Bool:=
  match x with
  | (.tup [.agg [.bool true,.imm _ [],.imm _ [],.imm _ [],.imm _ []],.int .i64 (.ofNat e)],_)=>Nat.beq e 0
  | _=>false
theorem none_sc:Scoped 0 noneW:=by
  unfold noneW
  rw[scoped_agg]
  intro x hx
  simp only[List.mem_cons,List.not_mem_nil,or_false] at hx
  rcases hx with rfl | rfl | rfl | rfl | rfl
  · exact .bool _
  all_goals (unfold nilW;rw[scoped_imm];intro r hr;cases hr)
/-- The code of the leaf that has nothing. -/
theorem encW {g:Nat} (h:allOf isZ (acall Tryz.prog orcS ecov epl 100000 60 g [noneW] ⟨.emp,0⟩)=true):Pure Tryz.prog g [noneW] (.tup [.imm false zW,iW (nat_lit 0)]):=by
  refine Pure.of_frz (by simpa using none_sc) ?_ ((runS h).mono ?_)
  · rw[scoped_tup]
    intro x hx
    simp only[List.mem_cons,List.not_mem_nil,or_false] at hx
    rcases hx with rfl | rfl
    · exact scoped_imm.2 zW_sc
    · exact .int _ _
  · rintro r PS ⟨m,h,rfl⟩
    unfold isZ at h
    split at h
    · rename_i n ver i len c e m' heq
      cases heq
      simp only[Bool.and_eq_true,beq_eq'] at h
      obtain⟨⟨⟨rfl,rfl⟩,rfl⟩,h⟩:=h
      split at h
      · rename_i ver' sz E opn hg
        simp only[Bool.and_eq_true,beq_eq',ble_le] at h
        obtain⟨⟨rfl,h⟩,hl⟩:=h
        have he:=rwsEq_eq h
        refine⟨n,ver,sz,_,opn,by rw[Mem.get_eq];exact hg,FrzL.tup (.cons ?_ (.cons (.same _) (.nil ..)))⟩
        have:=FrzV.sl (n:=n) (ver:=ver) (E:=E) 0 256 c (by omega)
        rw[List.drop_zero,he] at this
        exact this
      · cases h
    · cases h
theorem decW {g:Nat} (h:allOf isN (acall Tryz.prog orcS ecov epl 100000 60 g [.imm false zW] ⟨.emp,0⟩)=true):Pure Tryz.prog g [.imm false zW] (.tup [noneW,iW (nat_lit 0)]):=by
  refine Pure.of_nil (by intro x hx;simp only[List.mem_cons,List.not_mem_nil,or_false] at hx;subst hx;exact scoped_imm.2 zW_sc) ?_ (HCall.res (runS h) ?_)
  · rw[scoped_tup]
    intro x hx
    simp only[List.mem_cons,List.not_mem_nil,or_false] at hx
    rcases hx with rfl | rfl
    · exact none_sc
    · exact .int _ _
  · rintro r PS ⟨m,h,rfl⟩
    unfold isN at h
    split at h
    · rename_i a b c d e m' heq
      cases heq
      rw[beq_eq'] at h
      subst h
      exact⟨_,Sub.tup (r:=[noneW,iW (nat_lit 0)]) ⟨Sub.agg ⟨Sub.refl _,Sub.less _ _,Sub.less _ _,Sub.less _ _,Sub.less _ _,trivial⟩,Sub.refl _,trivial⟩,rfl⟩
    · cases h
end Go.Proofs.YtgglehcchdkbdaaGreat
namespace Go.Proofs.YtgglehcchdkbdaaGreat
open Go Go.Eng
set_option maxRecDepth 100000
variable [Toks]
theorem enc_run:allOf isZ (acall Tryz.prog orcS ecov epl 100000 60 86 [noneW] ⟨.emp,0⟩)=true:=by kernel_rfl
theorem dec_run:allOf isN (acall Tryz.prog orcS ecov epl 100000 60 73 [.imm false zW] ⟨.emp,0⟩)=true:=by kernel_rfl
theorem renc_run:allOf isZ (acall Tryz.prog orcS ecov epl 100000 60 45 [noneW] ⟨.emp,0⟩)=true:=by kernel_rfl
theorem rdec_run:allOf isN (acall Tryz.prog orcS ecov epl 100000 60 122 [.imm false zW] ⟨.emp,0⟩)=true:=by kernel_rfl
end Go.Proofs.YtgglehcchdkbdaaGreat
