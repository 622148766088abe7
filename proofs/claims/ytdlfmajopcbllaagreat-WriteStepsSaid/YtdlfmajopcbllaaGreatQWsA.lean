/-
Calls that are known on data, where a slice among the arguments is a piece: seen as data. They leave all as it was (bools, numbers), or the pieces are nobody's any more.
No conditions.
-/
import Derived.Test.YtdlfmajopcbllaaGreatQRunR
set_option linter.unusedSectionVars false
set_option linter.unusedSimpArgs false
set_option linter.unusedVariables false
namespace Go.Eng
open Go
variable [Toks]
theorem args_tup {M:Nat→Prop} {e:List Pos} {w:World} {args:List HV} {vs:Array Value} (h:FRel M e w args vs):VRel M e w (.tup args) (.tuple vs):=.tup args vs (by have:=h.1;omega) h.2
theorem tup_args {M:Nat→Prop} {e:List Pos} {w:World} {args:List HV} {vs:Array Value} (h:VRel M e w (.tup args) (.tuple vs)):FRel M e w args vs:=by
  cases h with
  | tup _ _ h1 h2=>exact⟨by omega,h2⟩
theorem Pure.borrow {P:Program} {f:FuncId} {args args':List HV} {PS PS2:PL} {res:HV} (hp:Pure P f args' res) (hF:FStar (.tup args) PS (.tup args') PS2) (ha:Scoped 0 (.tup args')) (hs:(∃b,res=.bool b)∨∃k z,res=.int k z):
    HCall P f args PS fun r PS'=>r=res∧PS'=PS:=by
  intro F e D w vs hr hf
  obtain⟨D2,h1,h2,h3⟩:=hr.fstar hF (args_tup hf)
  have hf0:FRel (Mut (fun _=>False) fun _ _=>False) [] w args' vs:=tup_args (h3.data (fun b hb=>by rcases hb with hb | ⟨_,hb⟩<;>exact hb.elim) ha)
  refine(hp [] (fun _=>False) [] (fun _ _=>False) w vs (rel_start w) hf0).mono ?_
  rintro en w' ⟨v,x,PS',e',D',rfl,⟨rfl,rfl⟩,hr',ht,hx⟩
  have ht':Tr e D w e D w':=⟨ht.os,ht.tape,ht.output,ht.size,fun b hb _=>ht.keep b hb fun _ h=>h,fun i b hb=>.inl ⟨i,hb⟩,.refl e⟩
  refine⟨v,x,PS,e,D,rfl,⟨rfl,rfl⟩,?_,ht',?_⟩
  · exact hr.next ht' hr.len (fun i b hb=>⟨(hr.out i b hb).1,Nat.lt_of_lt_of_le (hr.out i b hb).2.1 ht.size,(hr.out i b hb).2.2⟩) hr.apart (fun i q p hq hp=>.inl ⟨hq,hp,fun _=>Iff.rfl,fun b hb=>ht.keep b (hr.out i b hb).2.1 fun _ h=>h⟩)
  · rcases hs with ⟨b,rfl⟩ | ⟨k,z,rfl⟩
    · cases hx;exact .bool _
    · cases hx;exact .int _ _
theorem Pure.eat {P:Program} {f:FuncId} {args args':List HV} {PS PS2:PL} {res:HV} (hp:Pure P f args' res) (hF:FStar (.tup args) PS (.tup args') PS2):HCall P f args PS fun r PS'=>r=res∧PS'=PS2:=by
  intro F e D w vs hr hf
  obtain⟨D2,h1,h2,h3⟩:=hr.fstar hF (args_tup hf)
  refine(hp PS2 F e D2 w vs h1 (tup_args h3)).mono ?_
  rintro en w' ⟨v,x,PS',e',D',rfl,⟨h4,h5⟩,hr',ht,hv⟩
  exact⟨v,x,PS',e',D',rfl,⟨h4,h5⟩,hr',h2.trans ht,hv⟩
/-- What is known of a call on data:from its arguments,its result. -/
abbrev DSpec:=List HV→Option HV
def SpecOk (P:Program) (g:FuncId) (S:DSpec):Prop:=∀a r,S a=some r→Pure P g a r
noncomputable def viewO (args:List HV) (m:Mem):Option RM:=fL (slps 5 (.tup args) []) fun ps=>fzAll 0 ps (.tup args) m
noncomputable def isSc (x:HV):Bool:=
  match x with
  | .bool _=>true
  | .int _ _=>true
  | _=>false
noncomputable def oBor (S:DSpec) (args:List HV) (m:Mem):Option (List RM):=bnd (viewO args m) fun q=>
  match q.1 with
  | .tup a=>on (scB 0 9 (.tup a)) (bnd (S a) fun r=>on (isSc r) (some [(r,m)]))
  | _=>none
noncomputable def oEat (S:DSpec) (args:List HV) (m:Mem):Option (List RM):=bnd (viewO args m) fun q=>
  match q.1 with
  | .tup a=>bnd (S a) fun r=>some [(r,q.2)]
  | _=>none
/-- On data alone. -/
noncomputable def oDat (S:DSpec) (args:List HV) (m:Mem):Option (List RM):=bnd (S args) fun r=>some [(r,m)]
section
variable {P:Program} {g:FuncId} {S:DSpec} {args:List HV} {m:Mem} {L:List RM}
theorem oBor_h (hS:SpecOk P g S) (h:oBor S args m=some L):HCall P g args m.pl fun v PS=>∃x∈L,v=x.1∧PS=x.2.pl:=by
  simp only[oBor,viewO,fL_eq,bnd_some] at h
  obtain⟨⟨q,m2⟩,h1,h2⟩:=h
  have h1:=fzAll_h _ _ _ _ _ h1
  dsimp only at h1 h2
  split at h2
  · rename_i a
    simp only[on_some,bnd_some] at h2
    obtain⟨h3,r,h4,h5,h6⟩:=h2
    cases h6
    refine(Pure.borrow (hS _ _ h4) h1 (scB_h _ _ _ h3) ?_).mono fun v PS ⟨e1,e2⟩=>⟨_,List.mem_singleton.2 rfl,e1,e2⟩
    unfold isSc at h5
    split at h5
    · exact .inl ⟨_,rfl⟩
    · exact .inr ⟨_,_,rfl⟩
    · cases h5
  · cases h2
theorem oEat_h (hS:SpecOk P g S) (h:oEat S args m=some L):HCall P g args m.pl fun v PS=>∃x∈L,v=x.1∧PS=x.2.pl:=by
  simp only[oEat,viewO,fL_eq,bnd_some] at h
  obtain⟨⟨q,m2⟩,h1,h2⟩:=h
  have h1:=fzAll_h _ _ _ _ _ h1
  dsimp only at h1 h2
  split at h2
  · rename_i a
    simp only[bnd_some] at h2
    obtain⟨r,h4,h6⟩:=h2
    cases h6
    exact(Pure.eat (hS _ _ h4) h1).mono fun v PS ⟨e1,e2⟩=>⟨_,List.mem_singleton.2 rfl,e1,e2⟩
  · cases h2
theorem oDat_h (hS:SpecOk P g S) (h:oDat S args m=some L):HCall P g args m.pl fun v PS=>∃x∈L,v=x.1∧PS=x.2.pl:=by
  simp only[oDat,bnd_some] at h
  obtain⟨r,h4,h6⟩:=h
  cases h6
  exact(hS _ _ h4).way
end
theorem aOr_some {α:Type} {x y:Option α} {r:α} (h:aOr x y=some r):x=some r∨y=some r:=by
  cases x with
  | none=>exact .inr h
  | some a=>exact .inl h
/-- Rows seen in another way. -/
theorem Sub.imm {t:Bool} {E E':List (List HV)} (hl:E.length=E'.length) (h:∀(i:Nat) (l l':List HV),E[i]? =some l→E'[i]? =some l'→SubL l l'):Sub (.imm t E) (.imm t E'):=by
  intro M e w v hv
  have hne:E'≠[]→E≠[]:=fun h1 h2=>h1 (List.length_eq_zero_iff.1 (by rw[←hl,h2];rfl))
  have hne':E=[]→E'=[]:=fun h2=>List.length_eq_zero_iff.1 (by rw[←hl,h2];rfl)
  have hat:∀(i:Nat) (l':List HV),E'[i]? =some l'→∃l,E[i]? =some l∧SubL l l':=fun i l' hi=>by
    have:=(List.getElem?_eq_some_iff.1 hi).1
    exact⟨E[i]'(by omega),by simp,h i _ _ (by simp) hi⟩
  cases hv with
  | imm _ _ a c b o sz val hc hm ht hn ha hb hsz h1c hcell hval=>
    rw[hl]
    refine .imm t E' a c b o sz val (hl▸hc) hm (fun h1=>hl▸ht h1) hn ha (fun h1=>hb (hne h1)) (fun l' hl'=>?_) h1c (fun i l' k y hi hk=>?_) (fun i l' k y hi hk=>?_)
    · obtain⟨i,hi⟩:=List.getElem?_of_mem hl'
      obtain⟨l,h1,h2⟩:=hat i l' hi
      rw[←h2.get.1]
      exact hsz l (List.mem_of_getElem? h1)
    · obtain⟨l,h1,h2⟩:=hat i l' hi
      obtain⟨x,h3,_⟩:=h2.get.2 k y hk
      exact hcell i l k x h1 h3
    · obtain⟨l,h1,h2⟩:=hat i l' hi
      obtain⟨x,h3,h4⟩:=h2.get.2 k y hk
      exact h4 _ _ _ _ (hval i l k x h1 h3)
noncomputable def isEmp (args:List HV):Bool:=
  match args with
  | [.imm _ []]=>true
  | [.sl _ _ _ 0 _]=>true
  | _=>false
/-- What is made of nothing is told as data. -/
noncomputable def orcE (o:EC):EC:=fun g args m=>bif isEmp args then bnd (o g args m) (dat m) else o g args m
theorem orcE_ok {P:Program} {o:EC} (ho:ECOk P o):ECOk P (orcE o):=by
  intro g args m L h
  unfold orcE at h
  cases hb:isEmp args
  · rw[hb] at h;exact ho g args m L h
  · rw[hb] at h
    have h:bnd (o g args m) (dat m)=some L:=h
    rw[bnd_some] at h
    obtain⟨L1,h1,h2⟩:=h
    exact dat_h h2 (ho g args m L1 h1)
/-! ### Numbers by name,one behind the other -/
def tokRows (b:Nat) (n:Nat):List (List HV):=(List.range n).map fun j=>[.tok .u8 (b+j)]
noncomputable def fRows {α:Type} (b n:Nat):List (List HV)→(List (List HV)→α)→α:=
  Nat.rec (motive:=fun _=>List (List HV)→(List (List HV)→α)→α) (fun acc K=>K acc) (fun n ih acc K=>fN (Nat.add b n) fun i=>ih ([.tok .u8 i]::acc) K) n
theorem fRows_eq {α:Type} (b:Nat):∀(n:Nat) (acc:List (List HV)) (K:List (List HV)→α),fRows b n acc K=K (tokRows b n++acc)
  | 0,acc,K=>rfl
  | n+1,acc,K=>by
    show fN (Nat.add b n) (fun i=>fRows b n ([.tok .u8 i]::acc) K)=_
    rw[fN_eq,fRows_eq b n]
    simp[tokRows,List.range_succ]
noncomputable def isTok (r:List HV) (b:Nat):Bool:=
  match r with
  | [.tok .u8 i]=>Nat.beq i b
  | _=>false
noncomputable def tokEq (E:List (List HV)):Nat→Nat→Bool:=
  List.rec (motive:=fun _=>Nat→Nat→Bool) (fun b e=>Nat.beq b e) (fun r _ ih b e=>isTok r b&&fN (Nat.succ b) fun b=>ih b e) E
theorem tokEq_h:∀(E:List (List HV)) (b e:Nat),tokEq E b e=true→E.length+b=e∧E=tokRows b E.length
  | [],b,e,h=>by
    have h:Nat.beq b e=true:=h
    rw[beq_eq'] at h
    exact⟨by simp[h],rfl⟩
  | r::E,b,e,h=>by
    have h:(isTok r b&&fN (Nat.succ b) fun b=>tokEq E b e)=true:=h
    rw[Bool.and_eq_true,fN_eq] at h
    obtain⟨h1,h2⟩:=h
    obtain⟨h3,h4⟩:=tokEq_h E _ _ h2
    unfold isTok at h1
    split at h1
    · rename_i i
      rw[beq_eq'] at h1
      subst h1
      refine⟨by rw[List.length_cons];omega,?_⟩
      rw[List.length_cons,tokRows,List.range_succ_eq_map]
      simp only[List.map_cons,List.map_map]
      rw[show E=tokRows (Nat.succ i) E.length from h4]
      simp only[tokRows,List.length_map,List.length_range,Nat.add_zero]
      congr 1
      refine List.map_congr_left fun j _=>?_
      simp only[Function.comp]
      congr 2
      omega
    · cases h1
end Go.Eng
