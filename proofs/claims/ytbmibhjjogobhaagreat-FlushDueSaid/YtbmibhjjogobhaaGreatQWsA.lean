/-
Calls that are known on data, where a slice among the arguments is a piece: seen as data. They leave all as it was (bools, numbers), or the pieces are nobody's any more.
No conditions.
-/
import Derived.Test.YtbmibhjjogobhaaGreatQRunR
set_option linter.unusedSectionVars false
set_option linter.unusedSimpArgs false
set_option linter.unusedVariables false
noncomputable section
namespace Go.Eng
open Go
variable [zB]
theorem zAX {M:Nat→Prop} {e:List Pos} {w:World} {args:List HV} {vs:Array Value} (h:zy M e w args vs):zH M e w (.tup args) (.tuple vs):=.tup args vs (by have:=h.1;omega) h.2
theorem zAq {M:Nat→Prop} {e:List Pos} {w:World} {args:List HV} {vs:Array Value} (h:zH M e w (.tup args) (.tuple vs)):zy M e w args vs:=by
 cases h with
 | tup _ _ h1 h2=>exact⟨by omega,h2⟩
theorem Pure.borrow {P:Program} {f:FuncId} {args args':List HV} {PS PS2:PL} {res:HV} (hp:Pure P f args' res) (hF:gF (.tup args) PS (.tup args') PS2) (ha:zc 0 (.tup args')) (hs:(∃b,res=.bool b)∨(∃k z,res=.int k z)∨∃k q r,res=.any k q r):
  zI P f args PS fun r PS'=>r=res∧PS'=PS:=by
 intro F e D w vs hr hf
 obtain⟨D2,h1,h2,h3⟩:=hr.GJ hF (zAX hf)
 have hf0:zy (Mut (fun _=>False) fun _ _=>False) [] w args' vs:=zAq (h3.data (fun b hb=>by rcases hb with hb | ⟨_,hb⟩<;>exact hb.elim) ha)
 refine(hp [] (fun _=>False) [] (fun _ _=>False) w vs (zBr w) hf0).mono ?_
 rintro en w' ⟨v,x,PS',e',D',rfl,⟨rfl,rfl⟩,hr',ht,hx⟩
 have ht':Tr e D w e D w':=⟨ht.os,ht.tape,ht.output,ht.size,fun b hb _=>ht.keep b hb fun _ h=>h,fun i b hb=>.inl ⟨i,hb⟩,.refl e⟩
 refine⟨v,x,PS,e,D,rfl,⟨rfl,rfl⟩,?_,ht',?_⟩
 ·exact hr.next ht' hr.len (fun i b hb=>⟨(hr.out i b hb).1,Nat.lt_of_lt_of_le (hr.out i b hb).2.1 ht.size,(hr.out i b hb).2.2⟩) hr.apart (fun i q p hq hp=>.inl ⟨hq,hp,fun _=>Iff.rfl,fun b hb=>ht.keep b (hr.out i b hb).2.1 fun _ h=>h⟩)
 ·rcases hs with ⟨b,rfl⟩ | ⟨k,z,rfl⟩ | ⟨k,q,r,rfl⟩
  ·cases hx;exact .bool _
  ·cases hx;exact .int _ _
  ·cases hx;exact .any _ _ _ _ (by assumption)
theorem Pure.eat {P:Program} {f:FuncId} {args args':List HV} {PS PS2:PL} {res:HV} (hp:Pure P f args' res) (hF:gF (.tup args) PS (.tup args') PS2):zI P f args PS fun r PS'=>r=res∧PS'=PS2:=by
 intro F e D w vs hr hf
 obtain⟨D2,h1,h2,h3⟩:=hr.GJ hF (zAX hf)
 refine(hp PS2 F e D2 w vs h1 (zAq h3)).mono ?_
 rintro en w' ⟨v,x,PS',e',D',rfl,⟨h4,h5⟩,hr',ht,hv⟩
 exact⟨v,x,PS',e',D',rfl,⟨h4,h5⟩,hr',h2.trans ht,hv⟩
/-- What is known of a call on data:from its arguments,its result. -/
abbrev kO:=List HV→Option HV
def yg (P:Program) (g:FuncId) (S:kO):Prop:=∀a r,S a=some r→Pure P g a r
def WZ (args:List HV) (m:Mem):Option RM:=fL (VM 5 (.tup args) []) fun ps=>Zt 0 ps (.tup args) m
def zDv (x:HV):Bool:=
 match x with
 | .bool _=>true
 | .int _ _=>true
 | .any _ _ _=>true
 | _=>false
def JZ (S:kO) (args:List HV) (m:Mem):Option (List RM):=bnd (WZ args m) fun q=>
 match q.1 with
 | .tup a=>on (scB 0 9 (.tup a)) (bnd (S a) fun r=>on (zDv r) (some [(r,m)]))
 | _=>none
def Qf (S:kO) (args:List HV) (m:Mem):Option (List RM):=bnd (WZ args m) fun q=>
 match q.1 with
 | .tup a=>bnd (S a) fun r=>some [(r,q.2)]
 | _=>none
/-- On data alone. -/
def zAB (S:kO) (args:List HV) (m:Mem):Option (List RM):=bnd (S args) fun r=>some [(r,m)]
section
variable {P:Program} {g:FuncId} {S:kO} {args:List HV} {m:Mem} {L:List RM}
theorem zNQ (hS:yg P g S) (h:JZ S args m=some L):zI P g args m.pl fun v PS=>∃x∈L,v=x.1∧PS=x.2.pl:=by
 simp only[JZ,WZ,yn,zZ] at h
 obtain⟨⟨q,m2⟩,h1,h2⟩:=h
 have h1:=Xy _ _ _ _ _ h1
 dsimp only at h1 h2
 split at h2
 ·rename_i a
  simp only[zS,zZ] at h2
  obtain⟨h3,r,h4,h5,h6⟩:=h2
  cases h6
  refine(Pure.borrow (hS _ _ h4) h1 (Yy _ _ _ h3) ?_).mono fun v PS ⟨e1,e2⟩=>⟨_,List.mem_singleton.2 rfl,e1,e2⟩
  unfold zDv at h5
  split at h5
  ·exact .inl ⟨_,rfl⟩
  ·exact .inr (.inl ⟨_,_,rfl⟩)
  ·exact .inr (.inr ⟨_,_,_,rfl⟩)
  ·cases h5
 ·cases h2
theorem zLz (hS:yg P g S) (h:Qf S args m=some L):zI P g args m.pl fun v PS=>∃x∈L,v=x.1∧PS=x.2.pl:=by
 simp only[Qf,WZ,yn,zZ] at h
 obtain⟨⟨q,m2⟩,h1,h2⟩:=h
 have h1:=Xy _ _ _ _ _ h1
 dsimp only at h1 h2
 split at h2
 ·rename_i a
  simp only[zZ] at h2
  obtain⟨r,h4,h6⟩:=h2
  cases h6
  exact(Pure.eat (hS _ _ h4) h1).mono fun v PS ⟨e1,e2⟩=>⟨_,List.mem_singleton.2 rfl,e1,e2⟩
 ·cases h2
theorem zMA (hS:yg P g S) (h:zAB S args m=some L):zI P g args m.pl fun v PS=>∃x∈L,v=x.1∧PS=x.2.pl:=by
 simp only[zAB,zZ] at h
 obtain⟨r,h4,h6⟩:=h
 cases h6
 exact(hS _ _ h4).way
end
theorem zH6 {α:Type} {x y:Option α} {r:α} (h:aOr x y=some r):x=some r∨y=some r:=by
 cases x with
 | none=>exact .inr h
 | some a=>exact .inl h
/-- Rows seen in another way. -/
theorem Sub.imm {t:Bool} {E E':List (List HV)} (hl:E.length=E'.length) (h:∀(i:Nat) (l l':List HV),E[i]? =some l→E'[i]? =some l'→jl l l'):Sub (.imm t E) (.imm t E'):=by
 intro M e w v hv
 have hne:E'≠[]→E≠[]:=fun h1 h2=>h1 (List.length_eq_zero_iff.1 (by rw[←hl,h2];rfl))
 have hne':E=[]→E'=[]:=fun h2=>List.length_eq_zero_iff.1 (by rw[←hl,h2];rfl)
 have hat:∀(i:Nat) (l':List HV),E'[i]? =some l'→∃l,E[i]? =some l∧jl l l':=fun i l' hi=>by
  have:=(List.getElem?_eq_some_iff.1 hi).1
  exact⟨E[i]'(by omega),by simp,h i _ _ (by simp) hi⟩
 cases hv with
 | imm _ _ a c b o sz val hc hm ht hn ha hb hsz h1c hcell zT=>
  rw[hl]
  refine .imm t E' a c b o sz val (hl▸hc) hm (fun h1=>hl▸ht h1) hn ha (fun h1=>hb (hne h1)) (fun l' hl'=>?_) h1c (fun i l' k y hi hk=>?_) (fun i l' k y hi hk=>?_)
  ·obtain⟨i,hi⟩:=List.getElem?_of_mem hl'
   obtain⟨l,h1,h2⟩:=hat i l' hi
   rw[←h2.get.1]
   exact hsz l (List.mem_of_getElem? h1)
  ·obtain⟨l,h1,h2⟩:=hat i l' hi
   obtain⟨x,h3,_⟩:=h2.get.2 k y hk
   exact hcell i l k x h1 h3
  ·obtain⟨l,h1,h2⟩:=hat i l' hi
   obtain⟨x,h3,h4⟩:=h2.get.2 k y hk
   exact h4 _ _ _ _ (zT i l k x h1 h3)
def zBn (args:List HV):Bool:=
 match args with
 | [.imm _ []]=>true
 | [.sl _ _ _ 0 _]=>true
 | _=>false
/-- What is made of nothing is told as data. -/
def Jn (o:EC):EC:=fun g args m=>bif zBn args then bnd (o g args m) (dat m) else o g args m
theorem zEQ {P:Program} {o:EC} (ho:qe P o):qe P (Jn o):=by
 intro g args m L h
 unfold Jn at h
 cases hb:zBn args
 ·rw[hb] at h;exact ho g args m L h
 ·rw[hb] at h
  have h:bnd (o g args m) (dat m)=some L:=h
  rw[zZ] at h
  obtain⟨L1,h1,h2⟩:=h
  exact zQO h2 (ho g args m L1 h1)
/-! ### Numbers by name,one behind the other -/
def xF (b:Nat) (n:Nat):List (List HV):=(List.range n).map fun j=>[.tok .u8 (b+j)]
end Go.Eng
end
