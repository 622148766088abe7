/-
Calls that are known on data, where a slice among the arguments is a piece: seen as data. They leave all as it was (bools, numbers), or the pieces are nobody's any more.
No conditions.
-/
import Derived.Test.YtajjhaidpagflaaGreatQRunR
set_option linter.unusedSectionVars false
set_option linter.unusedSimpArgs false
set_option linter.unusedVariables false
namespace Go.Eng
open Go
variable [Toks]
theorem args_tup {M:Nat→Prop} {e:List Pos} {w:World} {args:List HV} {vs:Array Value} (h:FRel M e w args vs):VRel M e w (.tup args) (.tuple vs):=.tup args vs (by have:=h.1;omega) h.2
theorem tup_args {M:Nat→Prop} {e:List Pos} {w:World} {args:List HV} {vs:Array Value} (h:VRel M e w (.tup args) (.tuple vs)):FRel M e w args vs:=by
  cases h with
  | tup _ _ h1 h2=>exact⟨by omega,h2⟩
theorem Pure.borrow {P:Program} {f:FuncId} {args args':List HV} {PS PS2:PL} {res:HV} (hp:Pure P f args' res) (hF:FStar (.tup args) PS (.tup args') PS2) (ha:Scoped 0 (.tup args')) (hs:(∃b,res=.bool b)∨(∃k z,res=.int k z)∨∃k q r,res=.any k q r):
    HCall P f args PS fun r PS'=>r=res∧PS'=PS:=by
  intro F e D w vs hr hf
  obtain⟨D2,h1,h2,h3⟩:=hr.fstar hF (args_tup hf)
  have hf0:FRel (Mut (fun _=>False) fun _ _=>False) [] w args' vs:=tup_args (h3.data (fun b hb=>by rcases hb with hb | ⟨_,hb⟩<;>exact hb.elim) ha)
  refine(hp [] (fun _=>False) [] (fun _ _=>False) w vs (rel_start w) hf0).mono ?_
  rintro en w' ⟨v,x,PS',e',D',rfl,⟨rfl,rfl⟩,hr',ht,hx⟩
  have ht':Tr e D w e D w':=⟨ht.os,ht.tape,ht.output,ht.size,fun b hb _=>ht.keep b hb fun _ h=>h,fun i b hb=>.inl ⟨i,hb⟩,.refl e⟩
  refine⟨v,x,PS,e,D,rfl,⟨rfl,rfl⟩,?_,ht',?_⟩
  · exact hr.next ht' hr.len (fun i b hb=>⟨(hr.out i b hb).1,Nat.lt_of_lt_of_le (hr.out i b hb).2.1 ht.size,(hr.out i b hb).2.2⟩) hr.apart (fun i q p hq hp=>.inl ⟨hq,hp,fun _=>Iff.rfl,fun b hb=>ht.keep b (hr.out i b hb).2.1 fun _ h=>h⟩)
  · rcases hs with ⟨b,rfl⟩ | ⟨k,z,rfl⟩ | ⟨k,q,r,rfl⟩
    · cases hx;exact .bool _
    · cases hx;exact .int _ _
    · cases hx;exact .any _ _ _ _ (by assumption)
theorem Pure.eat {P:Program} {f:FuncId} {args args':List HV} {PS PS2:PL} {res:HV} (hp:Pure P f args' res) (hF:FStar (.tup args) PS (.tup args') PS2):HCall P f args PS fun r PS'=>r=res∧PS'=PS2:=by
  intro F e D w vs hr hf
  obtain⟨D2,h1,h2,h3⟩:=hr.fstar hF (args_tup hf)
  refine(hp PS2 F e D2 w vs h1 (tup_args h3)).mono ?_
  rintro en w' ⟨v,x,PS',e',D',rfl,⟨h4,h5⟩,hr',ht,hv⟩
  exact⟨v,x,PS',e',D',rfl,⟨h4,h5⟩,hr',h2.trans ht,hv⟩
/-- What is known of a call on data:from its arguments,its result. -/
abbrev DSpec:=List HV→Option HV
def SpecOk (P:Program) (g:FuncId) (S:DSpec):Prop:=∀a r,S a=some r→Pure P g a r
noncomputable def viewO (args:List HV) (m:Mem):Option RM:=fL (slps 5 (.tup args) []) fun ps=>fzAll 0 ps (.tup args) m
noncomputable def isSc (x:HV):Bool:=
  match x with
  | .bool _=>true
  | .int _ _=>true
  | .any _ _ _=>true
  | _=>false
noncomputable def oBor (S:DSpec) (args:List HV) (m:Mem):Option (List RM):=bnd (viewO args m) fun q=>
  match q.1 with
  | .tup a=>on (scB 0 9 (.tup a)) (bnd (S a) fun r=>on (isSc r) (some [(r,m)]))
  | _=>none
noncomputable def oEat (S:DSpec) (args:List HV) (m:Mem):Option (List RM):=bnd (viewO args m) fun q=>
  match q.1 with
  | .tup a=>bnd (S a) fun r=>some [(r,q.2)]
  | _=>none
/-- On data alone. -/
noncomputable def oDat (S:DSpec) (args:List HV) (m:Mem):Option (List RM):=bnd (S args) fun r=>some [(r,m)]
section
variable {P:Program} {g:FuncId} {S:DSpec} {args:List HV} {m:Mem} {L:List RM}
theorem oBor_h (hS:SpecOk P g S) (h:oBor S args m=some L):HCall P g args m.pl fun v PS=>∃x∈L,v=x.1∧PS=x.2.pl:=by
  simp only[oBor,viewO,fL_eq,bnd_some] at h
  obtain⟨⟨q,m2⟩,h1,h2⟩:=h
  have h1:=fzAll_h _ _ _ _ _ h1
  dsimp only at h1 h2
  split at h2
  · rename_i a
    simp only[on_some,bnd_some] at h2
    obtain⟨h3,r,h4,h5,h6⟩:=h2
    cases h6
    refine(Pure.borrow (hS _ _ h4) h1 (scB_h _ _ _ h3) ?_).mono fun v PS ⟨e1,e2⟩=>⟨_,List.mem_singleton.2 rfl,e1,e2⟩
    unfold isSc at h5
    split at h5
    · exact .inl ⟨_,rfl⟩
    · exact .inr (.inl ⟨_,_,rfl⟩)
    · exact .inr (.inr ⟨_,_,_,rfl⟩)
    · cases h5
  · cases h2
theorem oEat_h (hS:SpecOk P g S) (h:oEat S args m=some L):HCall P g args m.pl fun v PS=>∃x∈L,v=x.1∧PS=x.2.pl:=by
  simp only[oEat,viewO,fL_eq,bnd_some] at h
  obtain⟨⟨q,m2⟩,h1,h2⟩:=h
  have h1:=fzAll_h _ _ _ _ _ h1
  dsimp only at h1 h2
  split at h2
  · rename_i a
    simp only[bnd_some] at h2
    obtain⟨r,h4,h6⟩:=h2
    cases h6
    exact(Pure.eat (hS _ _ h4) h1).mono fun v PS ⟨e1,e2⟩=>⟨_,List.mem_singleton.2 rfl,e1,e2⟩
  · cases h2
theorem oDat_h (hS:SpecOk P g S) (h:oDat S args m=some L):HCall P g args m.pl fun v PS=>∃x∈L,v=x.1∧PS=x.2.pl:=by
  simp only[oDat,bnd_some] at h
  obtain⟨r,h4,h6⟩:=h
  cases h6
  exact(hS _ _ h4).way
end
theorem aOr_some {α:Type} {x y:Option α} {r:α} (h:aOr x y=some r):x=some r∨y=some r:=by
  cases x with
  | none=>exact .inr h
  | some a=>exact .inl h
noncomputable def isEmp (args:List HV):Bool:=
  match args with
  | [.imm _ []]=>true
  | [.sl _ _ _ 0 _]=>true
  | _=>false
/-- What is made of nothing is told as data. -/
noncomputable def orcE (o:EC):EC:=fun g args m=>bif isEmp args then bnd (o g args m) (dat m) else o g args m
theorem orcE_ok {P:Program} {o:EC} (ho:ECOk P o):ECOk P (orcE o):=by
  intro g args m L h
  unfold orcE at h
  cases hb:isEmp args
  · rw[hb] at h;exact ho g args m L h
  · rw[hb] at h
    have h:bnd (o g args m) (dat m)=some L:=h
    rw[bnd_some] at h
    obtain⟨L1,h1,h2⟩:=h
    exact dat_h h2 (ho g args m L1 h1)
/-! ### Numbers by name,one behind the other -/
end Go.Eng
