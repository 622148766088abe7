/-
A leaf of nine keys, made by the laws' own function: run, and told as data.
The examples of the law of rooms, run: they hold.
No conditions.
-/
import Derived.Test.YtgglehcchdkbdaaGreatQRunK
set_option linter.unusedSectionVars false
set_option linter.unusedSimpArgs false
set_option linter.unusedVariables false
namespace Go.Eng
open Go
variable [Toks]
/-- A call known on data,its slice argument a piece that nobody needs any more. -/
theorem HCall.freezeArg {P:Program} {f:FuncId} {args args':List HV} {PS:PL} {res:HV} {n ver sz:Nat} {E:List (List HV)} {opn:Bool} (hp:Pure P f args' res) (hq:getP PS n=.arr ver sz E opn)
    (hl:args'.length=args.length) (hF:∀(i:Nat) (x y:HV),args[i]? =some x→args'[i]? =some y→FrzV n ver E x y):HCall P f args PS fun r PS'=>r=res∧PS'=PS.set n .dead:=by
  intro F e D w vs hr hf
  obtain⟨D2,h1,h2,h3⟩:=hr.frz hq (FrzPS.only (getP_lt hq))
  obtain⟨hfl,hfv⟩:=hf
  refine(hp (PS.set n .dead) F e D2 w vs h1 ⟨by omega,fun i y u hy hu=>?_⟩).mono ?_
  · obtain⟨x,hx⟩:∃x,args[i]? =some x:=by
      have:=(List.getElem?_eq_some_iff.1 hy).1
      exact⟨args[i]'(by omega),by simp⟩
    exact h3 x y u (hF i x y hx hy) (hfv i x u hx hu)
  · rintro en w' ⟨v,x,PS',e',D',rfl,⟨h4,h5⟩,hr',ht,hv⟩
    exact⟨v,x,PS',e',D',rfl,⟨h4,h5⟩,hr',h2.trans ht,hv⟩
def leaf9:List (List HV):=[
  [.int .i64 (.ofNat (nat_lit 1)),.int .u8 (.ofNat (nat_lit 97)),.int .u8 (.ofNat (nat_lit 0)),.int .u8 (.ofNat (nat_lit 0)),.int .u8 (.ofNat (nat_lit 0)),.int .u8 (.ofNat (nat_lit 0)),.int .u8 (.ofNat (nat_lit 0)),.int .u8 (.ofNat (nat_lit 0)),.int .u8 (.ofNat (nat_lit 0)),.int .i64 (.ofNat (nat_lit 0)),.int .u8 (.ofNat (nat_lit 0)),.int .u8 (.ofNat (nat_lit 0)),.int .u8 (.ofNat (nat_lit 0)),.int .u8 (.ofNat (nat_lit 0)),.int .u8 (.ofNat (nat_lit 0)),.int .u8 (.ofNat (nat_lit 0)),.int .u8 (.ofNat (nat_lit 0)),.int .u8 (.ofNat (nat_lit 0)),.int .u8 (.ofNat (nat_lit 0)),.int .u8 (.ofNat (nat_lit 0)),.int .u8 (.ofNat (nat_lit 0)),.int .u8 (.ofNat (nat_lit 0)),.int .u8 (.ofNat (nat_lit 0)),.int .u8 (.ofNat (nat_lit 0)),.int .u8 (.ofNat (nat_lit 0)),.int .u8 (.ofNat (nat_lit 0))],
  [.int .i64 (.ofNat (nat_lit 2)),.int .u8 (.ofNat (nat_lit 97)),.int .u8 (.ofNat (nat_lit 97)),.int .u8 (.ofNat (nat_lit 0)),.int .u8 (.ofNat (nat_lit 0)),.int .u8 (.ofNat (nat_lit 0)),.int .u8 (.ofNat (nat_lit 0)),.int .u8 (.ofNat (nat_lit 0)),.int .u8 (.ofNat (nat_lit 0)),.int .i64 (.ofNat (nat_lit 0)),.int .u8 (.ofNat (nat_lit 0)),.int .u8 (.ofNat (nat_lit 0)),.int .u8 (.ofNat (nat_lit 0)),.int .u8 (.ofNat (nat_lit 0)),.int .u8 (.ofNat (nat_lit 0)),.int .u8 (.ofNat (nat_lit 0)),.int .u8 (.ofNat (nat_lit 0)),.int .u8 (.ofNat (nat_lit 0)),.int .u8 (.ofNat (nat_lit 0)),.int .u8 (.ofNat (nat_lit 0)),.int .u8 (.ofNat (nat_lit 0)),.int .u8 (.ofNat (nat_lit 0)),.int .u8 (.ofNat (nat_lit 0)),.int .u8 (.ofNat (nat_lit 0)),.int .u8 (.ofNat (nat_lit 0)),.int .u8 (.ofNat (nat_lit 0))],
  [.int .i64 (.ofNat (nat_lit 1)),.int .u8 (.ofNat (nat_lit 98)),.int .u8 (.ofNat (nat_lit 0)),.int .u8 (.ofNat (nat_lit 0)),.int .u8 (.ofNat (nat_lit 0)),.int .u8 (.ofNat (nat_lit 0)),.int .u8 (.ofNat (nat_lit 0)),.int .u8 (.ofNat (nat_lit 0)),.int .u8 (.ofNat (nat_lit 0)),.int .i64 (.ofNat (nat_lit 0)),.int .u8 (.ofNat (nat_lit 0)),.int .u8 (.ofNat (nat_lit 0)),.int .u8 (.ofNat (nat_lit 0)),.int .u8 (.ofNat (nat_lit 0)),.int .u8 (.ofNat (nat_lit 0)),.int .u8 (.ofNat (nat_lit 0)),.int .u8 (.ofNat (nat_lit 0)),.int .u8 (.ofNat (nat_lit 0)),.int .u8 (.ofNat (nat_lit 0)),.int .u8 (.ofNat (nat_lit 0)),.int .u8 (.ofNat (nat_lit 0)),.int .u8 (.ofNat (nat_lit 0)),.int .u8 (.ofNat (nat_lit 0)),.int .u8 (.ofNat (nat_lit 0)),.int .u8 (.ofNat (nat_lit 0)),.int .u8 (.ofNat (nat_lit 0))],
  [.int .i64 (.ofNat (nat_lit 2)),.int .u8 (.ofNat (nat_lit 98)),.int .u8 (.ofNat (nat_lit 97)),.int .u8 (.ofNat (nat_lit 0)),.int .u8 (.ofNat (nat_lit 0)),.int .u8 (.ofNat (nat_lit 0)),.int .u8 (.ofNat (nat_lit 0)),.int .u8 (.ofNat (nat_lit 0)),.int .u8 (.ofNat (nat_lit 0)),.int .i64 (.ofNat (nat_lit 0)),.int .u8 (.ofNat (nat_lit 0)),.int .u8 (.ofNat (nat_lit 0)),.int .u8 (.ofNat (nat_lit 0)),.int .u8 (.ofNat (nat_lit 0)),.int .u8 (.ofNat (nat_lit 0)),.int .u8 (.ofNat (nat_lit 0)),.int .u8 (.ofNat (nat_lit 0)),.int .u8 (.ofNat (nat_lit 0)),.int .u8 (.ofNat (nat_lit 0)),.int .u8 (.ofNat (nat_lit 0)),.int .u8 (.ofNat (nat_lit 0)),.int .u8 (.ofNat (nat_lit 0)),.int .u8 (.ofNat (nat_lit 0)),.int .u8 (.ofNat (nat_lit 0)),.int .u8 (.ofNat (nat_lit 0)),.int .u8 (.ofNat (nat_lit 0))],
  [.int .i64 (.ofNat (nat_lit 1)),.int .u8 (.ofNat (nat_lit 99)),.int .u8 (.ofNat (nat_lit 0)),.int .u8 (.ofNat (nat_lit 0)),.int .u8 (.ofNat (nat_lit 0)),.int .u8 (.ofNat (nat_lit 0)),.int .u8 (.ofNat (nat_lit 0)),.int .u8 (.ofNat (nat_lit 0)),.int .u8 (.ofNat (nat_lit 0)),.int .i64 (.ofNat (nat_lit 1)),.int .u8 (.ofNat (nat_lit 0)),.int .u8 (.ofNat (nat_lit 0)),.int .u8 (.ofNat (nat_lit 0)),.int .u8 (.ofNat (nat_lit 0)),.int .u8 (.ofNat (nat_lit 0)),.int .u8 (.ofNat (nat_lit 0)),.int .u8 (.ofNat (nat_lit 0)),.int .u8 (.ofNat (nat_lit 0)),.int .u8 (.ofNat (nat_lit 0)),.int .u8 (.ofNat (nat_lit 0)),.int .u8 (.ofNat (nat_lit 0)),.int .u8 (.ofNat (nat_lit 0)),.int .u8 (.ofNat (nat_lit 0)),.int .u8 (.ofNat (nat_lit 0)),.int .u8 (.ofNat (nat_lit 0)),.int .u8 (.ofNat (nat_lit 0))],
  [.int .i64 (.ofNat (nat_lit 2)),.int .u8 (.ofNat (nat_lit 99)),.int .u8 (.ofNat (nat_lit 97)),.int .u8 (.ofNat (nat_lit 0)),.int .u8 (.ofNat (nat_lit 0)),.int .u8 (.ofNat (nat_lit 0)),.int .u8 (.ofNat (nat_lit 0)),.int .u8 (.ofNat (nat_lit 0)),.int .u8 (.ofNat (nat_lit 0)),.int .i64 (.ofNat (nat_lit 1)),.int .u8 (.ofNat (nat_lit 0)),.int .u8 (.ofNat (nat_lit 0)),.int .u8 (.ofNat (nat_lit 0)),.int .u8 (.ofNat (nat_lit 0)),.int .u8 (.ofNat (nat_lit 0)),.int .u8 (.ofNat (nat_lit 0)),.int .u8 (.ofNat (nat_lit 0)),.int .u8 (.ofNat (nat_lit 0)),.int .u8 (.ofNat (nat_lit 0)),.int .u8 (.ofNat (nat_lit 0)),.int .u8 (.ofNat (nat_lit 0)),.int .u8 (.ofNat (nat_lit 0)),.int .u8 (.ofNat (nat_lit 0)),.int .u8 (.ofNat (nat_lit 0)),.int .u8 (.ofNat (nat_lit 0)),.int .u8 (.ofNat (nat_lit 0))],
  [.int .i64 (.ofNat (nat_lit 1)),.int .u8 (.ofNat (nat_lit 100)),.int .u8 (.ofNat (nat_lit 0)),.int .u8 (.ofNat (nat_lit 0)),.int .u8 (.ofNat (nat_lit 0)),.int .u8 (.ofNat (nat_lit 0)),.int .u8 (.ofNat (nat_lit 0)),.int .u8 (.ofNat (nat_lit 0)),.int .u8 (.ofNat (nat_lit 0)),.int .i64 (.ofNat (nat_lit 1)),.int .u8 (.ofNat (nat_lit 0)),.int .u8 (.ofNat (nat_lit 0)),.int .u8 (.ofNat (nat_lit 0)),.int .u8 (.ofNat (nat_lit 0)),.int .u8 (.ofNat (nat_lit 0)),.int .u8 (.ofNat (nat_lit 0)),.int .u8 (.ofNat (nat_lit 0)),.int .u8 (.ofNat (nat_lit 0)),.int .u8 (.ofNat (nat_lit 0)),.int .u8 (.ofNat (nat_lit 0)),.int .u8 (.ofNat (nat_lit 0)),.int .u8 (.ofNat (nat_lit 0)),.int .u8 (.ofNat (nat_lit 0)),.int .u8 (.ofNat (nat_lit 0)),.int .u8 (.ofNat (nat_lit 0)),.int .u8 (.ofNat (nat_lit 0))],
  [.int .i64 (.ofNat (nat_lit 1)),.int .u8 (.ofNat (nat_lit 101)),.int .u8 (.ofNat (nat_lit 0)),.int .u8 (.ofNat (nat_lit 0)),.int .u8 (.ofNat (nat_lit 0)),.int .u8 (.ofNat (nat_lit 0)),.int .u8 (.ofNat (nat_lit 0)),.int .u8 (.ofNat (nat_lit 0)),.int .u8 (.ofNat (nat_lit 0)),.int .i64 (.ofNat (nat_lit 2)),.int .u8 (.ofNat (nat_lit 0)),.int .u8 (.ofNat (nat_lit 0)),.int .u8 (.ofNat (nat_lit 0)),.int .u8 (.ofNat (nat_lit 0)),.int .u8 (.ofNat (nat_lit 0)),.int .u8 (.ofNat (nat_lit 0)),.int .u8 (.ofNat (nat_lit 0)),.int .u8 (.ofNat (nat_lit 0)),.int .u8 (.ofNat (nat_lit 0)),.int .u8 (.ofNat (nat_lit 0)),.int .u8 (.ofNat (nat_lit 0)),.int .u8 (.ofNat (nat_lit 0)),.int .u8 (.ofNat (nat_lit 0)),.int .u8 (.ofNat (nat_lit 0)),.int .u8 (.ofNat (nat_lit 0)),.int .u8 (.ofNat (nat_lit 0))],
  [.int .i64 (.ofNat (nat_lit 1)),.int .u8 (.ofNat (nat_lit 102)),.int .u8 (.ofNat (nat_lit 0)),.int .u8 (.ofNat (nat_lit 0)),.int .u8 (.ofNat (nat_lit 0)),.int .u8 (.ofNat (nat_lit 0)),.int .u8 (.ofNat (nat_lit 0)),.int .u8 (.ofNat (nat_lit 0)),.int .u8 (.ofNat (nat_lit 0)),.int .i64 (.ofNat (nat_lit 2)),.int .u8 (.ofNat (nat_lit 0)),.int .u8 (.ofNat (nat_lit 0)),.int .u8 (.ofNat (nat_lit 0)),.int .u8 (.ofNat (nat_lit 0)),.int .u8 (.ofNat (nat_lit 0)),.int .u8 (.ofNat (nat_lit 0)),.int .u8 (.ofNat (nat_lit 0)),.int .u8 (.ofNat (nat_lit 0)),.int .u8 (.ofNat (nat_lit 0)),.int .u8 (.ofNat (nat_lit 0)),.int .u8 (.ofNat (nat_lit 0)),.int .u8 (.ofNat (nat_lit 0)),.int .u8 (.ofNat (nat_lit 0)),.int .u8 (.ofNat (nat_lit 0)),.int .u8 (.ofNat (nat_lit 0)),.int .u8 (.ofNat (nat_lit 0))]]
def nums9:List (List HV):=[[.int .i64 (.ofNat (nat_lit 0))],[.int .i64 (.ofNat (nat_lit 8))],[.int .i64 (.ofNat (nat_lit 16))],[.int .i64 (.ofNat (nat_lit 24))],[.int .i64 (.ofNat (nat_lit 32))],[.int .i64 (.ofNat (nat_lit 40))],[.int .i64 (.ofNat (nat_lit 4))],[.int .i64 (.ofNat (nat_lit 12))],[.int .i64 (.ofNat (nat_lit 20))]]
/-- Equal values,worked out. -/
noncomputable def vEq (x y:HV):Bool:=
  match x,y with
  | .int k a,.int k' b=>kEq k k'&&iEq a b
  | .bool a,.bool b=>a == b
  | _,_=>false
theorem vEq_eq {x y:HV} (h:vEq x y=true):x=y:=by
  unfold vEq at h
  split at h
  · rw[Bool.and_eq_true,←iEq_eq] at h
    rw[kEq_eq h.1,of_decide_eq_true h.2]
  · rw[beq_iff_eq] at h;rw[h]
  · cases h
noncomputable def rowEq:List HV→List HV→Bool
  | [],[]=>true
  | x::l,y::r=>vEq x y&&rowEq l r
  | _,_=>false
theorem rowEq_eq:∀{l r:List HV},rowEq l r=true→l=r
  | [],[],_=>rfl
  | x::l,y::r,h=>by
    rw[rowEq,Bool.and_eq_true] at h
    rw[vEq_eq h.1,rowEq_eq h.2]
  | [],_::_,h=>by cases h
  | _::_,[],h=>by cases h
noncomputable def rowsEq:List (List HV)→List (List HV)→Bool
  | [],[]=>true
  | x::l,y::r=>rowEq x y&&rowsEq l r
  | _,_=>false
theorem rowsEq_eq:∀{l r:List (List HV)},rowsEq l r=true→l=r
  | [],[],_=>rfl
  | x::l,y::r,h=>by
    rw[rowsEq,Bool.and_eq_true] at h
    rw[rowEq_eq h.1,rowsEq_eq h.2]
  | [],_::_,h=>by cases h
  | _::_,[],h=>by cases h
end Go.Eng
namespace Go.Proofs.YtgglehcchdkbdaaGreat
open Go Go.Eng
variable [Toks]
set_option maxRecDepth 100000
noncomputable def allOf (Q:RM→Bool) (l:Option (List RM)):Bool:=Option.rec (motive:=fun _=>Bool) false (fun l=>rAll Q l) l
theorem runS {Q:RM→Bool} {g:FuncId} {args:List HV} {d fuel:Nat} (h:allOf Q (acall Tryz.prog orcS ecov epl fuel d g args ⟨.emp,0⟩)=true):HCall Tryz.prog g args [] fun r PS=>∃m:Mem,Q (r,m)=true∧PS=m.pl:=by
  cases hc:acall Tryz.prog orcS ecov epl fuel d g args ⟨.emp,0⟩ with
  | none=>rw[hc] at h;cases h
  | some L=>
    rw[hc] at h
    have h:rAll Q L=true:=h
    rw[rAll_eq] at h
    refine(acall_h mixed' orcS_ok covers d g args ⟨.emp,0⟩ L hc).mono ?_
    rintro r PS ⟨x,hx,rfl,rfl⟩
    exact⟨x.2,List.all_eq_true.1 h x hx,rfl⟩
noncomputable def isLeaf9 (x:RM):Bool:=
  match x with
  | (.agg [.bool true,.sl n ver 0 len none,.imm t1 [],.imm t2 [],.imm t3 []],m)=>t1&&t2&&t3&&(match m.get n with
    | .arr ver' _ E _=>Nat.beq ver ver'&&Nat.beq len 9&&rowsEq E leaf9
    | _=>false)
  | _=>false
def node9:HV:=.agg [.bool true,.imm false leaf9,.imm true [],.imm true [],.imm true []]
theorem leaf9_run:allOf isLeaf9 (acall Tryz.prog orcS ecov epl 100000 60 34 [.imm false nums9] ⟨.emp,0⟩)=true:=by kernel_rfl
theorem leaf9_sc:Scoped 0 node9:=by
  have h:∀r∈leaf9,∀x∈r,∃k n,x=.int k n:=by
    intro r hr x hx
    simp only[leaf9,List.mem_cons,List.not_mem_nil,or_false] at hr
    rcases hr with rfl | rfl | rfl | rfl | rfl | rfl | rfl | rfl | rfl<;>(simp only[List.mem_cons,List.not_mem_nil,or_false] at hx;rcases hx with rfl | rfl | rfl | rfl | rfl | rfl | rfl | rfl | rfl | rfl | rfl | rfl | rfl | rfl | rfl | rfl | rfl | rfl | rfl | rfl | rfl | rfl | rfl | rfl | rfl | rfl<;>exact⟨_,_,rfl⟩)
  unfold node9
  rw[scoped_agg]
  intro x hx
  simp only[List.mem_cons,List.not_mem_nil,or_false] at hx
  rcases hx with rfl | rfl | rfl | rfl | rfl
  · exact .bool _
  · rw[scoped_imm]
    intro r hr x hx
    obtain⟨k,n,rfl⟩:=h r hr x hx
    exact .int _ _
  all_goals (rw[scoped_imm];intro r hr;cases hr)
theorem leaf9_pure:Pure Tryz.prog 34 [.imm false nums9] node9:=by
  refine Pure.of_frz (by simp[nums9,scoped_imm];exact⟨.int _ _,.int _ _,.int _ _,.int _ _,.int _ _,.int _ _,.int _ _,.int _ _,.int _ _⟩) leaf9_sc ((runS leaf9_run).mono ?_)
  rintro r PS ⟨m,h,rfl⟩
  unfold isLeaf9 at h
  split at h
  · rename_i n ver len t1 t2 t3 m' heq
    cases heq
    simp only[Bool.and_eq_true] at h
    obtain⟨⟨⟨rfl,rfl⟩,rfl⟩,h⟩:=h
    split at h
    · rename_i ver' sz E opn hg
      simp only[Bool.and_eq_true,beq_eq'] at h
      obtain⟨⟨rfl,rfl⟩,h⟩:=h
      have:=rowsEq_eq h
      subst this
      refine⟨n,ver,sz,_,opn,by rw[Mem.get_eq];exact hg,FrzL.agg (.cons (.same _) (.cons ?_ (.cons (.same _) (.cons (.same _) (.cons (.same _) (.nil ..))))))⟩
      exact FrzV.sl (n:=n) (ver:=ver) (E:=leaf9) 0 9 none (by decide)
    · cases h
  · cases h
/-- The leaf,its numbers in a piece. -/
noncomputable def oLeaf9 (args:List HV) (m:Mem):Option (List RM):=
  match args with
  | [.sl n ver 0 9 (some 9)]=>(match m.get n with
    | .arr ver' _ E _=>on (Nat.beq ver ver'&&rowsEq E nums9) (m.set n .dead fun m'=>some [(node9,m')])
    | _=>none)
  | _=>none
theorem oLeaf9_h {args:List HV} {m:Mem} {L:List RM} (h:oLeaf9 args m=some L):HCall Tryz.prog 34 args m.pl fun v PS=>∃x∈L,v=x.1∧PS=x.2.pl:=by
  unfold oLeaf9 at h
  split at h
  · rename_i n ver
    split at h
    · rename_i ver' sz E opn hg
      simp only[on_some,Bool.and_eq_true,beq_eq'] at h
      obtain⟨⟨rfl,he⟩,h⟩:=h
      obtain⟨m2,h7,h8⟩:=Mem.set_some h
      cases h8
      have:=rowsEq_eq he
      subst this
      refine(HCall.freezeArg (args:=[.sl n ver 0 9 (some 9)]) leaf9_pure (by rw[Mem.get_eq];exact hg) rfl (fun i x y hx hy=>?_)).mono ?_
      · match i with
        | 0=>
          cases hx;cases hy
          exact FrzV.sl (n:=n) (ver:=ver) (E:=nums9) 0 9 (some 9) (by decide)
        | i+1=>simp at hx
      · rintro r PS ⟨rfl,rfl⟩
        exact⟨_,List.mem_singleton.2 rfl,rfl,h7.symm⟩
    · cases h
  · cases h
end Go.Proofs.YtgglehcchdkbdaaGreat
namespace Go.Proofs.YtgglehcchdkbdaaGreat
open Go Go.Eng
variable [Toks]
set_option maxRecDepth 100000
noncomputable def orcL:EC:=fun g args m=>bif Nat.beq g 34 then oLeaf9 args m else orcS g args m
theorem orcL_ok:ECOk Tryz.prog orcL:=by
  intro g args m L h
  unfold orcL at h
  rcases cond_some h with ⟨hg,h⟩ | h
  · rw[beq_eq'.1 hg];exact oLeaf9_h h
  · exact orcS_ok _ _ _ _ h
theorem trueL {g:FuncId} {args:List HV} {d fuel:Nat} (h:allTrue (acall Tryz.prog orcL ecov epl fuel d g args ⟨.emp,0⟩)=true):HCall Tryz.prog g args [] fun r _=>r=.bool true:=by
  cases hc:acall Tryz.prog orcL ecov epl fuel d g args ⟨.emp,0⟩ with
  | none=>rw[hc] at h;cases h
  | some L=>
    rw[hc] at h
    have h:rAll isTrue L=true:=h
    rw[rAll_eq] at h
    refine(acall_h mixed' orcL_ok covers d g args ⟨.emp,0⟩ L hc).mono ?_
    rintro r PS ⟨x,hx,rfl,rfl⟩
    have:=List.all_eq_true.1 h x hx
    obtain⟨v,m⟩:=x
    unfold isTrue at this
    split at this
    · rename_i b m heq;cases heq;rw[this]
    · cases this
theorem awake19_run:HCall Tryz.prog 12 [] [] fun r _=>r=.bool true:=trueL (fuel:=100000) (d:=60) (by kernel_rfl)
theorem awake19:Pure Tryz.prog 12 [] (.bool true):=Pure.of_nil (by simp) (.bool _) awake19_run
end Go.Proofs.YtgglehcchdkbdaaGreat
