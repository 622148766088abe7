/-
The code of the leaf that has nothing, on the document's side; the chapter's example: run.
The chapter's example, run.
No conditions.
-/
import Derived.Test.YtdlfmajopcbllaaGreatQWsB
set_option linter.unusedSectionVars false
set_option linter.unusedSimpArgs false
set_option linter.unusedVariables false
namespace Go.Eng
open Go
variable [Toks]
/-- What a run on data tells,a row of it frozen. -/
theorem Pure.of_frz {P:Program} {f:FuncId} {args:List HV} {res:HV} (ha:∀x∈args,Scoped 0 x) (hs:Scoped 0 res)
    (h:HCall P f args [] fun r PS=>∃n ver sz E opn,getP PS n=.arr ver sz E opn∧FrzV n ver E r res):Pure P f args res:=by
  refine Pure.of_nil ha hs (HCall.frz (h.mono ?_))
  rintro r PS ⟨n,ver,sz,E,opn,h1,h2⟩
  exact⟨n,ver,sz,E,opn,res,_,h1,h2,FrzPS.only (getP_lt h1),rfl⟩
theorem Sub.less (t:Bool) (E:List (List HV)):Sub (.imm t E) (.imm false E):=by
  intro M e w v hv
  cases hv with
  | imm _ _ a c b o sz val hc hm ht hn ha hb hsz h1c hcell hval=>exact .imm false E a c b o sz val hc hm (fun h=>by cases h) hn ha hb hsz h1c hcell hval
theorem Sub.tup {l r:List HV} (h:SubL l r):Sub (.tup l) (.tup r):=by
  intro M e w v hv
  obtain⟨h1,h2⟩:=h.get
  cases hv with
  | tup _ vs hl hh=>
    refine .tup _ vs (by omega) fun i y u hy hu=>?_
    obtain⟨x,h3,h4⟩:=h2 i y hy
    exact h4 _ _ _ _ (hh i x u h3 hu)
theorem Pure.res {P:Program} {f:FuncId} {args:List HV} {x y:HV} (h:Pure P f args x) (s:Sub x y):Pure P f args y:=fun PS=>HCall.res (h PS) (by
  rintro _ _ ⟨rfl,rfl⟩
  exact⟨y,s,rfl,rfl⟩)
theorem Pure.sub {P:Program} {f:FuncId} {args args':List HV} {x:HV} (h:Pure P f args x) (s:SubL args' args):Pure P f args' x:=fun PS=>HCall.sub s (h PS)
end Go.Eng
namespace Go.Proofs.YtdlfmajopcbllaaGreat
open Go Go.Eng
set_option maxRecDepth 100000
variable [Toks]
noncomputable def allOf (Q:RM→Bool) (l:Option (List RM)):Bool:=Option.rec (motive:=fun _=>Bool) false (fun l=>rAll Q l) l
theorem runS {Q:RM→Bool} {g:FuncId} {args:List HV} {d fuel:Nat} (h:allOf Q (acall Tryz.prog orcS ecov epl fuel d g args ⟨.emp,0⟩)=true):HCall Tryz.prog g args [] fun r PS=>∃m:Mem,Q (r,m)=true∧PS=m.pl:=by
  cases hc:acall Tryz.prog orcS ecov epl fuel d g args ⟨.emp,0⟩ with
  | none=>rw[hc] at h;cases h
  | some L=>
    rw[hc] at h
    have h:rAll Q L=true:=h
    rw[rAll_eq] at h
    refine(acall_h mixed' orcS_ok covers d g args ⟨.emp,0⟩ L hc).mono ?_
    rintro r PS ⟨x,hx,rfl,rfl⟩
    exact⟨x.2,List.all_eq_true.1 h x hx,rfl⟩
theorem zW_sc:∀r∈zW,∀x∈r,Scoped 0 x:=by
  have h:(zW.all fun r=>r.all (scB 0 2))=true:=by kernel_rfl
  intro r hr x hx
  exact scB_h 0 2 x (List.all_eq_true.1 (List.all_eq_true.1 h r hr) x hx)
noncomputable def isZ (x:RM):Bool:=
  match x with
  | (.tup [.sl n ver i len _,.int .i64 (.ofNat e)],m)=>Nat.beq i 0&&Nat.beq len 256&&Nat.beq e 0&&(match m.get n with
    | .arr ver' _ E _=>Nat.beq ver ver'&&rwsEq (E.take 256) zW&&Nat.ble 256 E.length
    | _=>false)
  | _=>false
theorem renc_run:allOf isZ (acall Tryz.prog orcS ecov epl 100000 60 77 [noneW false false false false] ⟨.emp,0⟩)=true:=by kernel_rfl
theorem none_sc (a b c d:Bool):Scoped 0 (noneW a b c d):=by
  unfold noneW
  rw[scoped_agg]
  intro x hx
  simp only[List.mem_cons,List.not_mem_nil,or_false] at hx
  rcases hx with rfl | rfl | rfl | rfl | rfl
  · exact .bool _
  all_goals (rw[scoped_imm];intro r hr;cases hr)
theorem sub_none (a b c d:Bool):Sub (noneW a b c d) (noneW false false false false):=Sub.agg ⟨Sub.refl _,Sub.less _ _,Sub.less _ _,Sub.less _ _,Sub.less _ _,trivial⟩
theorem rencW (a b c d:Bool):Pure Tryz.prog 77 [noneW a b c d] (.tup [.imm false zW,.int .i64 (.ofNat (nat_lit 0))]):=by
  refine Pure.sub (args:=[noneW false false false false]) (Pure.of_frz (by simpa using none_sc _ _ _ _) ?_ ((runS renc_run).mono ?_)) ⟨sub_none a b c d,trivial⟩
  · rw[scoped_tup]
    intro x hx
    simp only[List.mem_cons,List.not_mem_nil,or_false] at hx
    rcases hx with rfl | rfl
    · exact scoped_imm.2 zW_sc
    · exact .int _ _
  · rintro r PS ⟨m,h,rfl⟩
    unfold isZ at h
    split at h
    · rename_i n ver i len c e m' heq
      cases heq
      simp only[Bool.and_eq_true,beq_eq'] at h
      obtain⟨⟨⟨rfl,rfl⟩,rfl⟩,h⟩:=h
      split at h
      · rename_i ver' sz E opn hg
        simp only[Bool.and_eq_true,beq_eq',ble_le] at h
        obtain⟨⟨rfl,h⟩,hl⟩:=h
        have he:=rwsEq_eq h
        refine⟨n,ver,sz,_,opn,by rw[Mem.get_eq];exact hg,FrzL.tup (.cons ?_ (.cons (.same _) (.nil ..)))⟩
        have:=FrzV.sl (n:=n) (ver:=ver) (E:=E) 0 256 c (by omega)
        rw[List.drop_zero,he] at this
        exact this
      · cases h
    · cases h
noncomputable def isN (x:RM):Bool:=
  match x with
  | (.tup [.agg [.bool true,.imm _ [],.imm _ [],.imm _ [],.imm _ []],.int .i64 (.ofNat e)],_)=>Nat.beq e 0
  | _=>false
theorem rdec_run:allOf isN (acall Tryz.prog orcS ecov epl 100000 60 112 [.imm false zW] ⟨.emp,0⟩)=true:=by kernel_rfl
theorem rdecW (t:Bool):Pure Tryz.prog 112 [.imm t zW] (.tup [noneW false false false false,.int .i64 (.ofNat (nat_lit 0))]):=by
  refine Pure.sub (args:=[.imm false zW]) (Pure.of_nil (by intro x hx;simp only[List.mem_cons,List.not_mem_nil,or_false] at hx;subst hx;exact scoped_imm.2 zW_sc) ?_ (HCall.res (runS rdec_run) ?_)) ⟨Sub.less _ _,trivial⟩
  · rw[scoped_tup]
    intro x hx
    simp only[List.mem_cons,List.not_mem_nil,or_false] at hx
    rcases hx with rfl | rfl
    · exact none_sc _ _ _ _
    · exact .int _ _
  · rintro r PS ⟨m,h,rfl⟩
    unfold isN at h
    split at h
    · rename_i a b c d e m' heq
      cases heq
      rw[beq_eq'] at h
      subst h
      exact⟨_,Sub.tup (r:=[noneW false false false false,.int .i64 (.ofNat (nat_lit 0))]) ⟨sub_none a b c d,Sub.refl _,trivial⟩,rfl⟩
    · cases h
end Go.Proofs.YtdlfmajopcbllaaGreat
namespace Go.Proofs.YtdlfmajopcbllaaGreat
open Go Go.Eng
set_option maxRecDepth 100000
variable [Toks]
theorem awake20_run:HCall Tryz.prog 34 [] [] fun r _=>r=.bool true:=trueWs (orcE_ok orcS_ok) (fuel:=100000) (d:=60) (by kernel_rfl)
theorem awake20:Pure Tryz.prog 34 [] (.bool true):=Pure.of_nil (by simp) (.bool _) awake20_run
end Go.Proofs.YtdlfmajopcbllaaGreat
