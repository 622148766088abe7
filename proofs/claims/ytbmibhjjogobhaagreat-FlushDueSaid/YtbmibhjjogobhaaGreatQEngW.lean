/-
Regions that draw their order: plans, checked by computation; they hold of the model.
No conditions.
-/
import Derived.Test.YtbmibhjjogobhaaGreatQEngV
set_option linter.unusedSectionVars false
set_option linter.unusedSimpArgs false
set_option linter.unusedVariables false
namespace Go.Eng
open Go
variable [zB]
/-- An order:done;a value first;one of several that may come,what is looked at again after it;none more. -/
inductive zL where
 | done
 | one (i:Nat) (p:zL)
 | alt (i:Nat) (cs:List Nat) (p q:zL)
 | none
 | late (J:List Nat) (dp:Nat) (p1 p2:zL)
def ub (P:Program) (pu:Pu) (ops:Array Oper) (fr:Fr) (PS:PL) (A:Prop):List Nat→Prop
 | []=>A
 | i::cs=>hre P pu ops i fr PS∧ub P pu ops fr PS A cs
def XB (P:Program) (pu:Pu) (ops:Array Oper) (i:Nat) (K:Fr→Prop) (fr:Fr) (PS:PL):Prop:=
 match ops[i]? with
 | none=>False
 | some o=>hgd ops o fr (zb P pu o fr PS fun v=>K (zV fr o.dst v)) (K (zV fr o.dst (.cst undef)))
def zg (P:Program) (pu:Pu) (ops:Array Oper) (K:Fr→PL→Prop):zL→Fr→PL→Prop
 | .done,fr,PS=>K fr PS
 | .one i p,fr,PS=>XB P pu ops i (fun fr=>zg P pu ops K p fr PS) fr PS
 | .alt i cs p q,fr,PS=>qn P pu ops i (fun fr PS=>ub P pu ops fr PS (zg P pu ops K p fr PS) cs) fr PS∧zg P pu ops K q fr PS
 | .none,_,_=>True
 | .late _ _ _ _,_,_=>False
/-- An operation,as numbers:what it writes,looks at,waits for (bits);its class. -/
structure Row where
 dst:Nat
 looks:Nat
 after:Nat
 cls:Nat
def wG (l:List Nat):Nat:=l.foldr (fun i m=>2 ^ i ||| m) 0
def rowOf (pu:Pu) (ops:Array Oper) (o:Oper):Row:=⟨wG o.dst.toList,wG (o.looksAt ops),wG ((o.after.toList.filter fun e=>Region.binds .any e).map (·.on)),qD pu o⟩
def yp (pu:Pu) (ops:Array Oper):List Row:=ops.toList.map (rowOf pu ops)
def Zl:List Row→List Row→Bool
 | [],[]=>true
 | x::l,y::m=>x.dst == y.dst&&x.looks == y.looks&&x.after == y.after&&x.cls == y.cls&&Zl l m
 | _,_=>false
def YT (x y:Row):Bool:=x.dst&&& y.looks == 0&&x.dst&&& y.dst == 0&&y.dst&&& x.looks == 0
/-- The operations that wait for i:bits. -/
def jC (i:Nat):List Row→Nat→Nat→Nat
 | [],_,D=>D
 | r::l,j,D=>jC i l (j+1) (if r.after&&& (D ||| 2 ^ i) == 0 then D else D ||| 2 ^ j)
def gr (lm:Nat):List Row→Nat→List Nat
 | [],_=>[]
 | r::l,j=>if !lm.testBit j&&r.after&&& lm == r.after then j::gr lm l (j+1) else gr lm l (j+1)
/-- What is not yet done,does not wait for i,and is not i:apart from it. m:done,waiting,i. -/
def Va (m:Nat) (x:Row):List Row→Nat→Bool
 | [],_=>true
 | r::l,j=>(m.testBit j || YT x r)&&Va m x l (j+1)
/-- Of these:what might change what i computes. -/
def gz (m:Nat) (x:Row):List Row→Nat→List Nat
 | [],_=>[]
 | r::l,j=>if !m.testBit j&& !gI x.cls r.cls then j::gz m x l (j+1) else gz m x l (j+1)
/-- What was done first,and what might change it. -/
abbrev Yg:=List (Nat×List Nat)
def zPh (tab:List Row) (x:Row) (L:Yg):Bool:=
 L.all fun q=>match tab[q.1]? with | some r=>x.dst&&& r.looks == 0&&x.dst&&& r.dst == 0 | none=>true
def wQ (tab:List Row):zL→Yg→Nat→Nat→Option (List Nat)→Bool
 | .done,_,_,lm,rest=>rest.isNone&&(gr lm tab 0).isEmpty
 | .none,_,_,_,rest=>rest == some []
 | .one i p,L,n+1,lm,rest=>(match tab[i]? with
  | some x=>
   let m:=lm ||| (2 ^ i ||| jC i tab 0 0)
   rest.isNone&&(!lm.testBit i&&x.after&&& lm == x.after)&&decide (x.cls≤2)&&zPh tab x L&&Va m x tab 0&&
   (match gz m x tab 0 with
    | []=>wQ tab p L n (lm ||| 2 ^ i) none
    | j::S=>x.dst&&& x.looks == 0&&wQ tab p ((i,j::S)::L) n (lm ||| 2 ^ i) none)
  | none=>false)
 | .alt i cs p q,L,n+1,lm,rest=>
  let r:=rest.getD (gr lm tab 0)
  r.contains i&&decide (i<tab.length)&&L.all (fun q=>!q.2.contains i || cs.contains q.1)&&wQ tab p L n (lm ||| 2 ^ i) none&&wQ tab q L (n+1) lm (some (r.erase i))
 | _,_,_,_,_=>false
section
theorem qZ (l:List Nat) (i:Nat):(wG l).testBit i=true↔i∈l:=by
 unfold wG
 induction l with
 | nil=>simp
 | cons a l ih=>
  simp only[List.foldr_cons,Nat.testBit_or,Bool.or_eq_true,ih,Nat.testBit_two_pow,decide_eq_true_eq,List.mem_cons]
  constructor
  ·rintro (h | h)
   ·exact .inl h.symm
   ·exact .inr h
  ·rintro (h | h)
   ·exact .inl h.symm
   ·exact .inr h
theorem kA {a b:Nat} (h:a&&& b=0) {i:Nat} (ha:a.testBit i=true):b.testBit i=false:=by
 have:=congrArg (fun n=>n.testBit i) h
 simpa [ha] using this
theorem zFj {a b:Nat} (h:a&&& b=a) {i:Nat} (ha:a.testBit i=true):b.testBit i=true:=by
 have:=congrArg (fun n=>n.testBit i) h
 simpa [ha] using this
variable {pu:Pu} {ops:Array Oper}
theorem VZ {i:Nat} {x:Row} (h:(yp pu ops)[i]? =some x):∃o,ops[i]? =some o∧x=rowOf pu ops o:=by
 unfold yp at h
 rw[List.getElem?_map] at h
 cases ho:ops[i]? with
 | none=>simp[ho] at h
 | some o=>simp[ho] at h;exact⟨o,rfl,h.symm⟩
theorem xy {i:Nat} {o:Oper} (h:ops[i]? =some o):(yp pu ops)[i]? =some (rowOf pu ops o):=by
 unfold yp
 rw[List.getElem?_map]
 simp[h]
theorem zEZ {x y:Oper} (h:YT (rowOf pu ops x) (rowOf pu ops y)=true):x.apart ops y=true:=by
 unfold YT at h
 simp only[Bool.and_eq_true,beq_iff_eq,rowOf] at h
 obtain⟨⟨h1,h2⟩,h3⟩:=h
 unfold Oper.apart
 rw[Bool.and_eq_true]
 constructor
 ·cases hd:x.dst with
  | none=>rfl
  | some d=>
   have hb:(wG x.dst.toList).testBit d=true:=(qZ _ _).2 (by simp[hd])
   simp only[Bool.and_eq_true,Bool.not_eq_true',bne_iff_ne]
   refine⟨?_,fun e=>?_⟩
   ·have:=kA h1 hb
    rw[←Bool.not_eq_true] at this
    simpa using fun hm=>this ((qZ _ _).2 hm)
   ·have:=kA h2 hb
    rw[(qZ _ _).2 (by simp[e])] at this
    cases this
 ·cases hd:y.dst with
  | none=>rfl
  | some d=>
   have hb:(wG y.dst.toList).testBit d=true:=(qZ _ _).2 (by simp[hd])
   have:=kA h3 hb
   rw[←Bool.not_eq_true] at this
   simpa using fun hm=>this ((qZ _ _).2 hm)
/-- Bits as the list of what is done. -/
def jf (ops:Array Oper) (listed:Array Bool) (lm:Nat):Prop:=listed.size=ops.size∧∀j,listed.getD j false=lm.testBit j
theorem jf.set {listed:Array Bool} {lm i:Nat} (h:jf ops listed lm) (hi:i<ops.size):jf ops (listed.setIfInBounds i true) (lm ||| 2 ^ i):=by
 refine⟨by simp[h.1],fun j=>?_⟩
 rw[Nat.testBit_or,Nat.testBit_two_pow,←h.2 j]
 by_cases hij:i=j
 ·subst hij;simp[h.1,hi]
 ·rw[getD_set_ne false hij];simp[hij]
theorem jf.UT {listed:Array Bool} {lm j:Nat} (h:jf ops listed lm) (hj:j<ops.size):listed.getD j true=lm.testBit j:=by
 rw[←h.2 j]
 have:j<listed.size:=h.1▸hj
 simp[this]
theorem zLG {lm j:Nat}:∀(l:List Row) (k:Nat),j∈gr lm l k↔∃i r,l[i]? =some r∧j=k+i∧lm.testBit j=false∧r.after&&& lm=r.after:=by
 intro l
 induction l with
 | nil=>intro k;simp[gr]
 | cons x l ih=>
  intro k
  have hsplit:(∃i r,(x::l)[i]? =some r∧j=k+i∧lm.testBit j=false∧r.after&&& lm=r.after)↔((j=k∧lm.testBit j=false∧x.after&&& lm=x.after)∨∃i r,l[i]? =some r∧j=k+1+i∧lm.testBit j=false∧r.after&&& lm=r.after):=by
   constructor
   ·rintro⟨i,r,h1,h2,h3,h4⟩
    cases i with
    | zero=>simp at h1;subst h1;exact .inl ⟨h2,h3,h4⟩
    | succ i=>exact .inr ⟨i,r,by simpa using h1,by omega,h3,h4⟩
   ·rintro (⟨h1,h2,h3⟩ | ⟨i,r,h1,h2,h3,h4⟩)
    ·exact⟨0,x,rfl,h1,h2,h3⟩
    ·exact⟨i+1,r,by simpa using h1,by omega,h3,h4⟩
  rw[hsplit,←ih (k+1)]
  rw[gr]
  split
  ·rename_i hc
   simp only[Bool.and_eq_true,Bool.not_eq_true',beq_iff_eq] at hc
   rw[List.mem_cons]
   constructor
   ·rintro (rfl | h)
    ·exact .inl ⟨rfl,hc⟩
    ·exact .inr h
   ·rintro (h | h)
    ·exact .inl h.1
    ·exact .inr h
  ·rename_i hc
   simp only[Bool.and_eq_true,Bool.not_eq_true',beq_iff_eq] at hc
   constructor
   ·exact .inr
   ·rintro (⟨rfl,h⟩ | h)
    ·exact absurd h hc
    ·exact h
theorem Qe {o:Oper} {listed:Array Bool} {lm:Nat} (h:jf ops listed lm):(rowOf pu ops o).after&&& lm=(rowOf pu ops o).after↔∀e∈o.after,Region.binds .any e=true→listed.getD e.on false=true:=by
 constructor
 ·intro ha e he hb
  rw[h.2]
  refine zFj ha ((qZ _ _).2 ?_)
  exact List.mem_map.2 ⟨e,List.mem_filter.2 ⟨Array.mem_toList_iff.2 he,hb⟩,rfl⟩
 ·intro ha
  refine Nat.eq_of_testBit_eq fun i=>?_
  rw[Nat.testBit_and]
  cases hb:(rowOf pu ops o).after.testBit i with
  | false=>rfl
  | true=>
   obtain⟨e,he,rfl⟩:=List.mem_map.1 ((qZ _ _).1 hb)
   obtain⟨he,hbind⟩:=List.mem_filter.1 he
   rw[←h.2,ha e (Array.mem_toList_iff.1 he) hbind];rfl
theorem JH {listed:Array Bool} {lm j:Nat} (h:jf ops listed lm):j∈gr lm (yp pu ops) 0↔j∈Region.ready .any ops listed:=by
 rw[zLG,mem_ready]
 constructor
 ·rintro⟨i,r,h1,h2,h3,h4⟩
  obtain⟨o,ho,rfl⟩:=VZ h1
  have hij:i=j:=by omega
  subst hij
  have hlt:i<ops.size:=(Array.getElem?_eq_some_iff.1 ho).1
  exact⟨(h.UT hlt).trans h3,o,ho,(Qe h).1 h4⟩
 ·rintro⟨h0,o,ho,hall⟩
  have hlt:j<ops.size:=(Array.getElem?_eq_some_iff.1 ho).1
  exact⟨j,_,xy ho,by omega,(h.UT hlt).symm.trans h0,(Qe h).2 hall⟩
theorem zJb {i:Nat}:∀(l:List Row) (k D:Nat),(∀n,l[n]? =(yp pu ops)[k+n]?)→(∀j,D.testBit j=true→j<ops.size)→Vb ops i (fun j=>D.testBit j)→Vb ops i (fun j=>(jC i l k D).testBit j):=by
 intro l
 induction l with
 | nil=>intro k D _ _ h;exact h
 | cons r l ih=>
  intro k D hl hb h
  have h0:=hl 0
  simp only[List.getElem?_cons_zero,Nat.add_zero] at h0
  obtain⟨o,ho,hr⟩:=VZ h0.symm
  have hk:k<ops.size:=(Array.getElem?_eq_some_iff.1 ho).1
  have hl':∀n,l[n]? =(yp pu ops)[k+1+n]? :=fun n=>by have:=hl (n+1);simpa [Nat.add_assoc,Nat.add_comm 1 n] using this
  unfold jC
  split
  ·exact ih (k+1) _ hl' hb h
  ·rename_i hne
   refine ih (k+1) _ hl' (fun j hj=>?_) ?_
   ·simp only[Nat.testBit_or,Nat.testBit_two_pow,Bool.or_eq_true,decide_eq_true_eq] at hj
    rcases hj with hj | rfl
    ·exact hb j hj
    ·exact hk
   intro X listed hd j o' ho' hX hp hR
   simp only[Nat.testBit_or,Nat.testBit_two_pow,Bool.or_eq_true,decide_eq_true_eq] at hR
   rcases hR with hR | rfl
   ·exact h X listed hd j o' ho' hX hp hR
   ·rw[ho] at ho';cases ho'
    subst hr
    have hex:∃b,((rowOf pu ops o).after&&& (D ||| 2 ^ i)).testBit b=true:=by
     refine Classical.byContradiction fun hn=>hne ?_
     rw[beq_iff_eq]
     refine Nat.eq_of_testBit_eq fun b=>?_
     rw[Nat.zero_testBit]
     cases hb:((rowOf pu ops o).after&&& (D ||| 2 ^ i)).testBit b with
     | false=>rfl
     | true=>exact absurd ⟨b,hb⟩ hn
    obtain⟨b,hb'⟩:=hex
    simp only[Nat.testBit_and,Nat.testBit_or,Nat.testBit_two_pow,Bool.and_eq_true,Bool.or_eq_true,decide_eq_true_eq] at hb'
    obtain⟨hb1,hb2⟩:=hb'
    obtain⟨e,he,rfl⟩:=List.mem_map.1 ((qZ _ _).1 hb1)
    obtain⟨he,hbind⟩:=List.mem_filter.1 he
    have hle:=hp e (Array.mem_toList_iff.1 he) hbind
    rcases hb2 with hb2 | hb2
    ·have hlt:=hb _ hb2
     have ho2:ops[e.on]? =some ops[e.on]:=by simp[hlt]
     have hXe:=hd.out _ _ ho hX e (Array.mem_toList_iff.1 he) hbind
     exact h X listed hd e.on _ ho2 hXe (fun e' he' hb'=>hd.dn e.on _ ho2 hXe hle e' he' hb') hb2
    ·exact hb2▸hle
theorem zCV (i:Nat):Vb ops i (fun j=>(jC i (yp pu ops) 0 0).testBit j):=
 zJb (pu:=pu) _ 0 0 (fun n=>by simp) (fun j h=>by simp at h) (fun X listed _ j o _ _ _ h=>by simp at h)
theorem zHi {m:Nat} {x:Row}:∀(l:List Row) (k:Nat),Va m x l k=true→∀(j:Nat) (r:Row),l[j]? =some r→m.testBit (k+j)=true∨YT x r=true:=by
 intro l
 induction l with
 | nil=>intro k _ j r h;simp at h
 | cons y l ih=>
  intro k h j r hj
  simp only[Va,Bool.and_eq_true,Bool.or_eq_true] at h
  cases j with
  | zero=>simp at hj;subst hj;exact h.1
  | succ j=>have:=ih (k+1) h.2 j r (by simpa using hj);rwa [show k+(j+1)=k+1+j by omega]
theorem zOq {m:Nat} {x:Row}:∀(l:List Row) (k:Nat) (j:Nat) (r:Row),l[j]? =some r→m.testBit (k+j)=false→gI x.cls r.cls=false→k+j∈gz m x l k:=by
 intro l
 induction l with
 | nil=>intro k j r h;simp at h
 | cons y l ih=>
  intro k j r hj hm hc
  rw[gz]
  cases j with
  | zero=>simp at hj;subst hj;rw[Nat.add_zero] at*;rw[if_pos (by simp[hm,hc])];exact List.mem_cons_self
  | succ j=>
   have:=ih (k+1) j r (by simpa using hj) (by rwa [show k+1+j=k+(j+1) by omega]) hc
   rw[show k+(j+1)=k+1+j by omega]
   split
   ·exact List.mem_cons_of_mem _ this
   ·exact this
theorem zRJ {m:Nat} {x:Row}:∀(l:List Row) (k j:Nat),j∈gz m x l k→∃n r,l[n]? =some r∧j=k+n∧gI x.cls r.cls=false:=by
 intro l
 induction l with
 | nil=>intro k j h;cases h
 | cons y l ih=>
  intro k j h
  rw[gz] at h
  split at h
  ·rename_i hc
   rcases List.mem_cons.1 h with rfl | h
   ·refine⟨0,y,rfl,rfl,?_⟩
    simp only[Bool.and_eq_true,Bool.not_eq_true'] at hc
    exact hc.2
   ·obtain⟨n,r,h1,h2,h3⟩:=ih (k+1) j h
    exact⟨n+1,r,by simpa using h1,by omega,h3⟩
  ·obtain⟨n,r,h1,h2,h3⟩:=ih (k+1) j h
   exact⟨n+1,r,by simpa using h1,by omega,h3⟩
theorem zAK:∀(a b:List Row),Zl a b=true→a=b
 | [],[],_=>rfl
 | [],_::_,h=>by simp[Zl] at h
 | _::_,[],h=>by simp[Zl] at h
 | x::l,y::m,h=>by
  simp only[Zl,Bool.and_eq_true,beq_iff_eq] at h
  obtain⟨⟨⟨⟨h1,h2⟩,h3⟩,h4⟩,h5⟩:=h
  obtain⟨a,b,c,d⟩:=x
  obtain⟨a',b',c',d'⟩:=y
  simp only at h1 h2 h3 h4
  subst h1;subst h2;subst h3;subst h4
  rw[zAK l m h5]
end
section
variable {P:Program} {pu:Pu} {ops:Array Oper} {PS PS':PL} {fr fr':Fr} {o:Oper} {K:Fr→PL→Prop}
def gH (P:Program) (pu:Pu) (ops:Array Oper) (L:Yg):Chk:=fun j fr PS=>∀q∈L,j∈q.2→hre P pu ops q.1 fr PS
/-- What is pending was done by what only computes,and nothing that only computes hurts it. -/
def zFz (pu:Pu) (ops:Array Oper) (L:Yg):Prop:=∀q∈L,∃o,ops[q.1]? =some o∧qD pu o≤2∧∀j∈q.2,∃oj,ops[j]? =some oj∧2<qD pu oj
theorem zFG {A:Prop}:∀(cs:List Nat),ub P pu ops fr PS A cs→A∧∀i∈cs,hre P pu ops i fr PS
 | [],h=>⟨h,by simp⟩
 | i::cs,h=>by
  obtain⟨h1,h2⟩:=zFG cs h.2
  refine⟨h1,fun j hj=>?_⟩
  rcases List.mem_cons.1 hj with rfl | hj
  ·exact h.1
  ·exact h2 j hj
theorem zQb {i:Nat} {d:Option Tmp} {v:HV} (ho:ops[i]? =some o) (hc:qD pu o≤2) (h:∀t,d=some t→t∉o.looksAt ops) (h2:∀t,d=some t→o.dst≠some t) (hr:hre P pu ops i (zV fr d v) PS):hre P pu ops i fr PS:=by
 unfold hre at*
 simp only[ho] at*
 rw[QS hc h] at hr
 refine Yt (fun u hu=>?_) hr
 unfold kv at*
 cases hd:o.dst with
 | none=>trivial
 | some t=>
  rw[hd] at hu
  simp only at hu ⊢
  cases d with
  | none=>exact hu
  | some d=>
   have hne:d≠t:=fun e=>h2 d rfl (by rw[hd,e])
   simpa [get,zV,List.getD,List.getElem?_set_ne hne] using hu
theorem Qd {X:Nat→Bool}:∀(p:zL) (L:Yg) (n:Nat) (listed:Array Bool) (lm:Nat) (rest:Option (List Nat)) (fr:Fr) (PS:PL),wQ (yp pu ops) p L n lm rest=true→jf ops listed lm→zg P pu ops K p fr PS→gg X ops listed→zFz pu ops L→
  (rest=none→vI P pu ops (gH P pu ops L) K n listed fr PS)∧
  (∀r,rest=some r→∀i∈r,∃m,n=m+1∧(i∈Region.ready .any ops listed→qn P pu ops i (fun fr PS=>gH P pu ops L i fr PS∧vI P pu ops (gH P pu ops L) K m (listed.setIfInBounds i true) fr PS) fr PS)):=by
 intro p
 induction p with
 | done=>
  intro L n listed lm rest fr PS hok yZ h hd hL
  simp only[wQ,Bool.and_eq_true,Option.isNone_iff_eq_none,List.isEmpty_iff] at hok
  obtain⟨rfl,hr⟩:=hok
  refine⟨fun _=>zFg ?_ h,fun r hr=>by cases hr⟩
  refine List.eq_nil_iff_forall_not_mem.2 fun j hj=>?_
  rw[←JH (pu:=pu) yZ,hr] at hj
  cases hj
 | none=>
  intro L n listed lm rest fr PS hok yZ h hd hL
  simp only[wQ,beq_iff_eq] at hok
  subst hok
  refine⟨fun h=>?_,fun r hr i hi=>?_⟩
  ·cases h
  ·cases hr;cases hi
 | one i p ih=>
  intro L n listed lm rest fr PS hok yZ h hd hL
  cases n with
  | zero=>simp[wQ] at hok
  | succ n=>
   simp only[wQ] at hok
   cases hx:(yp pu ops)[i]? with
   | none=>rw[hx] at hok;cases hok
   | some x=>
    rw[hx] at hok
    obtain⟨oi,hoi,rfl⟩:=VZ hx
    have hilt:i<ops.size:=(Array.getElem?_eq_some_iff.1 hoi).1
    simp only[Bool.and_eq_true,Option.isNone_iff_eq_none,decide_eq_true_eq,Bool.not_eq_true',beq_iff_eq] at hok
    obtain⟨⟨⟨⟨⟨rfl,hlm,haft⟩,hc⟩,hun⟩,hap⟩,uy⟩:=hok
    have hrdy:i∈Region.ready .any ops listed:=mem_ready.2 ⟨(yZ.UT hilt).trans hlm,oi,hoi,(Qe yZ).1 haft⟩
    have hc:qD pu oi≤2:=hc
    refine⟨fun _=>?_,fun r hr=>by cases hr⟩
    simp only[zg,XB,hoi] at h
    obtain⟨z,hz,hp⟩:=zPN (K:=fun v=>zg P pu ops K p (zV fr oi.dst v) PS) h
    have hz':=Yt (K':=fun v=>zV fr oi.dst v=zV fr oi.dst z) (fun v hv=>by rw[hv]) hz
    have hinv:∀(j:Nat) (fr:Fr) (PS:PL) (v:HV),gH P pu ops L j (zV fr oi.dst v) PS→gH P pu ops L j fr PS:=by
     intro j fr PS v hk q hq hj
     obtain⟨o,ho,hco,_⟩:=hL q hq
     have hu:=List.all_eq_true.1 hun q hq
     rw[xy ho] at hu
     simp only[Bool.and_eq_true,beq_iff_eq,rowOf] at hu
     refine zQb ho hco (fun t ht hm=>?_) (fun t ht he=>?_) (hk q hq hj)
     ·have hb:(wG oi.dst.toList).testBit t=true:=(qZ _ _).2 (by simp[ht])
      have:=kA hu.1 hb
      rw[(qZ _ _).2 hm] at this;cases this
     ·have hb:(wG oi.dst.toList).testBit t=true:=(qZ _ _).2 (by simp[ht])
      have:=kA hu.2 hb
      rw[(qZ _ _).2 (by simp[he])] at this;cases this
    have hchi:∀fr PS,gH P pu ops L i fr PS:=by
     intro fr PS q hq hi
     obtain⟨o,ho,hco,hS⟩:=hL q hq
     obtain⟨oj,hoj,hlt⟩:=hS i hi
     rw[hoi] at hoj;cases hoj
     omega
    have wU:∀j oj,ops[j]? =some oj→j≠i→listed.getD j true=false→(jC i (yp pu ops) 0 0).testBit j=true∨(oi.apart ops oj=true∧(gI (qD pu oi) (qD pu oj)=true∨j∈gz (lm ||| (2 ^ i ||| jC i (yp pu ops) 0 0)) (rowOf pu ops oi) (yp pu ops) 0)):=by
     intro j oj hoj hji hjl
     have hjlt:j<ops.size:=(Array.getElem?_eq_some_iff.1 hoj).1
     by_cases hr:(jC i (yp pu ops) 0 0).testBit j=true
     ·exact .inl hr
     have hm:(lm ||| (2 ^ i ||| jC i (yp pu ops) 0 0)).testBit j=false:=by
      rw[yZ.UT hjlt] at hjl
      have hne:¬i=j:=fun e=>hji e.symm
      simp[Nat.testBit_or,Nat.testBit_two_pow,hjl,hne,hr]
     refine .inr ⟨?_,?_⟩
     ·rcases zHi _ _ hap j _ (xy hoj) with ha | ha
      ·rw[Nat.zero_add,hm] at ha;cases ha
      ·exact zEZ ha
     ·by_cases hcp:gI (qD pu oi) (qD pu oj)=true
      ·exact .inl hcp
      ·right
       have:=zOq (m:=lm ||| (2 ^ i ||| jC i (yp pu ops) 0 0)) (x:=rowOf pu ops oi) _ 0 j _ (xy hoj) (by rwa [Nat.zero_add]) (by simpa [rowOf] using hcp)
       rwa [Nat.zero_add] at this
    cases hS:gz (lm ||| (2 ^ i ||| jC i (yp pu ops) 0 0)) (rowOf pu ops oi) (yp pu ops) 0 with
    | nil=>
     rw[hS] at uy
     rw[hS] at wU
     have H:=(ih L n _ _ none _ PS uy (yZ.set hilt) hp (hd.set hrdy) hL).1 rfl
     exact zDh (S:=[]) (zCV (pu:=pu) i) hoi hc hinv hchi (by simp) n listed fr PS hd wU hrdy hz' (Vu (fun j fr PS h=>⟨h,fun hj=>by cases hj⟩) _ _ _ _ H)
    | cons j S=>
     rw[hS] at uy
     have hmem:=fun k hk=>zRJ (m:=lm ||| (2 ^ i ||| jC i (yp pu ops) 0 0)) (x:=rowOf pu ops oi) (yp pu ops) 0 k hk
     rw[hS] at wU hmem
     simp only[Bool.and_eq_true,beq_iff_eq] at uy
     obtain⟨hself,uy⟩:=uy
     have hL':zFz pu ops ((i,j::S)::L):=by
      intro q hq
      rcases List.mem_cons.1 hq with rfl | hq
      ·refine⟨oi,hoi,hc,fun k hk=>?_⟩
       obtain⟨n,r,h1,h2,h3⟩:=hmem k hk
       obtain⟨ok,hok,rfl⟩:=VZ h1
       rw[Nat.zero_add] at h2
       subst h2
       refine⟨ok,hok,?_⟩
       simp only[rowOf] at h3
       unfold gI at h3
       rcases Nat.lt_or_ge 2 (qD pu ok) with h' | h'
       ·exact h'
       ·simp[h'] at h3
      ·exact hL q hq
     have H:=(ih _ n _ _ none _ PS uy (yZ.set hilt) hp (hd.set hrdy) hL').1 rfl
     refine zDh (S:=j::S) (zCV (pu:=pu) i) hoi hc hinv hchi ?_ n listed fr PS hd wU hrdy hz' (Vu (fun k fr PS h=>⟨fun q hq=>h q (List.mem_cons_of_mem _ hq),fun hk=>h (i,j::S) List.mem_cons_self hk⟩) _ _ _ _ H)
     intro _ _ d hd hm
     have hb:(wG oi.dst.toList).testBit d=true:=(qZ _ _).2 (by simp[hd])
     have:=kA hself hb
     rw[show (rowOf pu ops oi).looks=wG (oi.looksAt ops) from rfl,(qZ _ _).2 hm] at this;cases this
 | late J dp p1 p2 _ _=>
  intro L n listed lm rest fr PS hok yZ h hd hL
  cases n<;>simp[wQ] at hok
 | alt i cs p q ihp ihq=>
  intro L n listed lm rest fr PS hok yZ h hd hL
  cases n with
  | zero=>simp[wQ] at hok
  | succ n=>
   simp only[wQ,Bool.and_eq_true,List.contains_iff_mem,decide_eq_true_eq] at hok
   obtain⟨⟨⟨⟨hri,hilt⟩,hcs⟩,hp⟩,hq⟩:=hok
   have hilt:i<ops.size:=by simpa [yp] using hilt
   simp only[zg] at h
   have Hq:=(ihq L (n+1) listed lm _ fr PS hq yZ h.2 hd hL).2 _ rfl
   have main:∀k∈rest.getD (gr lm (yp pu ops) 0),∃m,n+1=m+1∧(k∈Region.ready .any ops listed→qn P pu ops k (fun fr PS=>gH P pu ops L k fr PS∧vI P pu ops (gH P pu ops L) K m (listed.setIfInBounds k true) fr PS) fr PS):=by
    intro k hk
    by_cases hki:k=i
    ·subst hki
     refine⟨n,rfl,fun hkr=>Uu (fun fr PS hh=>?_) h.1⟩
     obtain⟨h1,h2⟩:=zFG cs hh
     refine⟨fun q hq hj=>?_,(ihp L n _ _ none fr PS hp (yZ.set hilt) h1 (hd.set hkr) hL).1 rfl⟩
     have:=List.all_eq_true.1 hcs q hq
     simp only[Bool.or_eq_true,Bool.not_eq_true',List.contains_iff_mem] at this
     rcases this with h' | h'
     ·simp[hj] at h'
     ·exact h2 _ h'
    ·exact Hq k ((List.mem_erase_of_ne hki).2 hk)
   refine⟨?_,?_⟩
   ·rintro rfl
    refine⟨fun h0=>?_,fun k hk=>?_⟩
    ·simp only[Option.getD_none] at hri
     rw[JH yZ,h0] at hri;cases hri
    ·obtain⟨m,hm,hh⟩:=main k ((JH yZ).2 hk)
     cases hm
     exact hh hk
   ·rintro r rfl k hk
    exact main k hk
variable {ds:List Deferred} {F:Nat→Prop} {e0:List Pos} {D0:Nat→Nat→Prop} {w0:World}
theorem zBB {i:Nat} {K:Fr→PL→Prop} {a:Act} {w:World} {Q:Exit→Act→World→Prop} {X:Act→World→Prop} (hX:∀fr PS a w,K fr PS→St ds F e0 D0 w0 fr PS a w→X a w)
  (h:qn P pu ops i K fr PS) (hst:St ds F e0 D0 w0 fr PS a w):wpOp P ops Q i X a w:=by
 unfold qn at h
 unfold wpOp
 cases ho:ops[i]? with
 | none=>rw[ho] at h;exact hX _ _ _ _ h hst
 | some o=>
  rw[ho] at h
  simp only at h ⊢
  have main:zu P pu o fr PS (fun v PS'=>K (zV fr o.dst v) PS')→o.wp P a w X Q:=fun hh=>
   Oper.wp_mono (fun a w ⟨v,PS',h1,h2⟩=>hX _ _ _ _ h1 h2) (UN o fr PS _ ds F e0 D0 w0 a w Q (zL2 hh) hst)
  unfold hgd at h
  cases hg:o.guard with
  | none=>
   rw[hg] at h
   simp only[Region.wanted,hg,if_true]
   exact .inl (main h)
  | some g=>
   obtain⟨j,want⟩:=g
   rw[hg] at h
   simp only at h
   cases hv:qc ops fr j with
   | bool b=>
    rw[hv] at h
    have hy:=Ka hst hv
    simp only[Region.wanted,hg,hy]
    by_cases hb:b=want
    ·subst hb
     simp only[beq_self_eq_true,if_true]
     exact .inl (main (h.1 rfl))
    ·have:(some b == some want)=false:=by simpa using hb
     rw[this]
     simp only[Bool.false_eq_true,if_false]
     refine hX _ _ _ _ (h.2 hb) ?_
     obtain⟨hd,e,D,h1,h2,h3⟩:=hst
     refine⟨?_,e,D,h1,h2.put o.dst (.cst _),h3⟩
     cases o.dst<;>exact hd
   | cst v=>
    rw[hv] at h
    cases v with
    | tuple u=>
     have hy:=Qh hst hv
     have:(none == some want)=false:=rfl
     simp only[Region.wanted,hg,hy,this,Bool.false_eq_true,if_false]
     refine hX _ _ _ _ h ?_
     obtain⟨hd,e,D,h1,h2,h3⟩:=hst
     refine⟨?_,e,D,h1,h2.put o.dst (.cst _),h3⟩
     cases o.dst<;>exact hd
    | _=>exact h.elim
   | _=>rw[hv] at h;exact h.elim
theorem zCo {chk:Chk} {Q:Exit→Act→World→Prop} (hQ:∀fr PS a w,K fr PS→St ds F e0 D0 w0 fr PS a w→Q .normal a w):∀(n:Nat) (listed:Array Bool) (fr:Fr) (PS:PL) (a:Act) (w:World),
  vI P pu ops chk K n listed fr PS→St ds F e0 D0 w0 fr PS a w→wpAny P .any ops Q n listed a w:=by
 intro n
 induction n with
 | zero=>intro listed fr PS a w h hst;exact⟨h.1,hQ _ _ _ _ h.2 hst⟩
 | succ n ih=>
  intro listed fr PS a w h hst
  exact⟨fun h0=>hQ _ _ _ _ (h.1 h0) hst,fun i hi=>zBB (fun fr PS a w hk hst=>ih _ _ _ _ _ hk.2 hst) (h.2 i hi) hst⟩
theorem zMk:gg (fun _=>false) ops (Array.replicate ops.size false):=by
 refine⟨fun j h=>(by cases h),fun _ _ _ _ _ _ _=>rfl,?_⟩
 intro j o ho _ hl
 have:j<ops.size:=(Array.getElem?_eq_some_iff.1 ho).1
 simp[this] at hl
theorem St.drew {a:Act} {w w':World} (h:St ds F e0 D0 w0 fr PS a w) (hh:w'.heap=w.heap) (ho:w'.os=w.os) (ht:w'.tape=w.tape) (hu:w'.output=w.output):St ds F e0 D0 w0 fr PS a w':=by
 obtain⟨hd,e,D,hr,hf,htr⟩:=h
 have ht':Tr e D w e D w':=⟨ho,ht,hu,by rw[hh];exact Nat.le_refl _,fun b _ _=>by rw[hh],fun i b h=>.inl ⟨i,h⟩,.refl e⟩
 refine⟨hd,e,D,?_,hf.mono ht'.stays (.refl e),htr.trans ht'⟩
 exact hr.next ht' hr.len (fun i b hb=>⟨(hr.out i b hb).1,by rw[hh];exact(hr.out i b hb).2.1,(hr.out i b hb).2.2⟩) hr.apart (fun i q p hq hp=>.inl ⟨hq,hp,fun _=>Iff.rfl,fun b hb=>by rw[hh]⟩)
end
end Go.Eng
namespace Go.Eng
open Go
variable [zB]
/-- Makes a variable,always:its slot,its type. -/
def wI (ops:Array Oper) (j:Nat):Option (Tmp×TypeId):=
 match ops[j]? with
 | some ⟨some d,.alloc t,_,_,_,none⟩=>some (d,t)
 | _=>none
theorem xr {ops:Array Oper} {j:Nat} {d:Tmp} {t:TypeId} (h:wI ops j=some (d,t)):∃ty pos after,ops[j]? =some ⟨some d,.alloc t,ty,pos,after,none⟩:=by
 unfold wI at h
 split at h
 ·rename_i ty pos after ho;cases h;exact⟨ty,pos,after,ho⟩
 ·cases h
def uk (P:Program) (ops:Array Oper) (K:Fr→PL→Prop):List Nat→Fr→PL→Prop
 | [],fr,PS=>K fr PS
 | j::J,fr,PS=>match wI ops j with
  | some (d,t)=>uY P t PS fun v PS'=>uk P ops K J (fr.set d v) PS'
  | none=>False
def hz (P:Program) (ops:Array Oper) (J:List Nat):Prop:=∀j∈J,∃d t l,wI ops j=some (d,t)∧qP P t=some l
/-! ### Slots that hold what was made already -/
abbrev SB:=Nat→Option (Nat×TypeId)
def ptrTo (b:Nat):Value:=.pointer (some ⟨b,0,none⟩)
def ovr (sb:SB) (fr:Fr):Fr:=fr.mapIdx fun i x=>match sb i with
 | some p=>.cst (ptrTo p.1)
 | none=>x
theorem WE (sb:SB) (fr:Fr):(ovr sb fr).length=fr.length:=by simp[ovr]
theorem kB (sb:SB) (fr:Fr) (i:Nat):(ovr sb fr)[i]? =(fr[i]?).map fun x=>match sb i with
 | some p=>.cst (ptrTo p.1)
 | none=>x:=by simp[ovr,List.getElem?_mapIdx]
theorem Qm {sb:SB} {fr:Fr} {i:Nat} (h:sb i=none):get (ovr sb fr) i=get fr i:=by
 unfold get
 rw[List.getD_eq_getElem?_getD,List.getD_eq_getElem?_getD,kB,h]
 cases fr[i]? <;>rfl
theorem GV {sb:SB} {fr:Fr} {d:Option Tmp} {v:HV} (h:∀t,d=some t→sb t=none):zV (ovr sb fr) d v=ovr sb (zV fr d v):=by
 cases d with
 | none=>rfl
 | some t=>
  apply List.ext_getElem?
  intro i
  simp only[zV]
  rw[List.getElem?_set,kB,kB,List.getElem?_set,WE]
  by_cases hi:t=i
  ·subst hi;by_cases hl:t<fr.length<;>simp[hl,h t rfl]
  ·simp[hi]
theorem zG1 {sb:SB} {fr:Fr} {d b:Nat} {t:TypeId}:zV (ovr sb fr) (some d) (.cst (ptrTo b))=ovr (fun i=>if i=d then some (b,t) else sb i) fr:=by
 apply List.ext_getElem?
 intro i
 simp only[zV]
 rw[List.getElem?_set,kB,kB,WE]
 by_cases hi:d=i
 ·subst hi;by_cases hl:d<fr.length<;>simp[hl]
 ·have:¬i=d:=fun e=>hi e.symm
  simp[hi,this]
theorem zEw (fr:Fr):ovr (fun _=>none) fr=fr:=by
 apply List.ext_getElem?
 intro i
 rw[kB]
 cases fr[i]? <;>rfl
section
variable {P:Program} {pu:Pu} {ops:Array Oper} {PS:PL} {fr:Fr} {K:Fr→PL→Prop} {sb:SB}
theorem zKS {i:Nat} {o:Oper} (hi:ops[i]? =some o) (h1:∀t∈o.looksAt ops,sb t=none) (h2:∀t,o.dst=some t→sb t=none) (h:qn P pu ops i K fr PS):
  qn P pu ops i (fun f PS'=>∃g,f=ovr sb g∧K g PS') (ovr sb fr) PS:=by
 have he:∀x∈o.op.operands,ev fr x=ev (ovr sb fr) x:=fun x hx=>by
  cases x with
  | tmp t=>exact(Qm (h1 t (List.mem_append_left _ (List.mem_filterMap.2 ⟨.tmp t,by simpa using hx,rfl⟩)))).symm
  | _=>rfl
 have hg:∀j want,o.guard=some (j,want)→qc ops (ovr sb fr) j=qc ops fr j:=by
  intro j want hg
  unfold qc
  cases ht:(ops[j]?).bind (·.dst) with
  | none=>rfl
  | some t=>exact Qm (h1 t (by simp[Oper.looksAt,hg,ht]))
 unfold qn at h ⊢
 simp only[hi] at h ⊢
 have e:∀A B,hgd ops o (ovr sb fr) A B=hgd ops o fr A B:=by
  intro A B
  unfold hgd
  split
  ·rfl
  ·rename_i j want hgg;rw[hg j want hgg]
 rw[e,←zEe he]
 exact xP (KR fun v PS' _ hk=>⟨_,GV h2,hk⟩) (fun hk=>⟨_,GV h2,hk⟩) h
end
section
variable {F F':Nat→Prop} {e:List Pos} {D:Nat→Nat→Prop} {PS:PL} {w:World}
/-- A block is made that is no piece's. -/
theorem Rel.zQj (h:Rel F e D PS w) (o:Obj) (hF:∀b,F' b↔F b∨b=w.heap.size):Rel F' e D PS (w.alloc o)∧vo (Mut F D) w (Mut F' D) (w.alloc o):=by
 have hs:vo (Mut F D) w (Mut F' D) (w.alloc o):=by
  refine⟨by simp,fun b hb _=>RowKit.Below.heap_alloc w o b hb,fun b hb hm=>?_⟩
  rcases hm with hm | hm
  ·rcases (hF b).1 hm with hm | hm
   ·exact .inl hm
   ·omega
  ·exact .inr hm
 refine⟨⟨h.len,fun i b hb=>?_,fun b hb=>?_,h.apart,fun i q p hq hp=>?_⟩,hs⟩
 ·obtain⟨h1,h2,h3⟩:=h.out i b hb
  refine⟨h1,by simp;omega,fun hf=>?_⟩
  rcases (hF b).1 hf with hf | hf
  ·exact h3 hf
  ·omega
 ·rcases (hF b).1 hb with hb | hb
  ·have:=h.fore b hb;simp;omega
  ·subst hb;simp
 ·exact(h.holds i q p hq hp).mono hs (.refl e) (fun _=>Iff.rfl) (fun b hb=>RowKit.Below.heap_alloc w o b (h.out i b hb).2.1) (fun b hb=>(h.out i b hb).2.1) (fun b hb=>.inr ⟨i,hb⟩)
/-- A block of nobody's becomes a piece. -/
theorem Rel.zGm (h:Rel F e D PS w) {b:Nat} {cs:Array Value} {t:TypeId} (hb:F b) (hF:∀x,F' x↔F x∧x≠b) (hc:w.heap[b]? =some (.cells cs t (0,0))) (h1:∀v∈cs.toList,v.oneCell'=true):
  Rel F' (e++[⟨0,.arr b 0 cs.toList.length 1⟩]) (we D PS.length b) (PS++[.arr 0 cs.toList.length [cs.toList.map ofV] false]) w∧Mut F' (we D PS.length b)=Mut F D:=by
 have hM:Mut F' (we D PS.length b)=Mut F D:=by
  funext x
  refine propext ⟨?_,?_⟩
  ·rintro (hx | ⟨i,hx | ⟨rfl,rfl⟩⟩)
   ·exact .inl ((hF x).1 hx).1
   ·exact .inr ⟨i,hx⟩
   ·exact .inl hb
  ·rintro (hx | ⟨i,hx⟩)
   ·by_cases hxb:x=b
    ·exact .inr ⟨PS.length,.inr ⟨rfl,hxb⟩⟩
    ·exact .inl ((hF x).2 ⟨hx,hxb⟩)
   ·exact .inr ⟨i,.inl hx⟩
 refine⟨⟨by simp[h.len],fun i x hx=>?_,fun x hx=>h.fore x ((hF x).1 hx).1,fun i j x hi hj=>?_,fun i q p hq hp=>?_⟩,hM⟩
 ·rcases hx with hx | ⟨rfl,rfl⟩
  ·obtain⟨a1,a2,a3⟩:=h.out i x hx
   exact⟨by simp;omega,a2,fun hf=>a3 ((hF x).1 hf).1⟩
  ·exact⟨by simp,h.fore _ hb,fun hf=>((hF _).1 hf).2 rfl⟩
 ·rcases hi with hi | ⟨rfl,rfl⟩<;>rcases hj with hj | ⟨rfl,hxb⟩
  ·exact h.apart i j x hi hj
  ·subst hxb;exact absurd hb (h.out i _ hi).2.2
  ·exact absurd hb (h.out j _ hj).2.2
  ·rfl
 ·rw[hM]
  by_cases hlt:i<PS.length
  ·rw[List.getElem?_append_left hlt] at hq
   rw[List.getElem?_append_left (by rw[h.len];exact hlt)] at hp
   refine(h.holds i q p hq hp).mono (.refl _ _) (.snoc _ _) (fun x=>⟨fun hx=>?_,fun hx=>.inl hx⟩) (fun _ _=>rfl) (fun x hx=>(h.out i x hx).2.1) (fun x hx=>.inr ⟨i,hx⟩)
   rcases hx with hx | ⟨rfl,_⟩
   ·exact hx
   ·omega
  ·have hi:i=PS.length:=by
    have:=(List.getElem?_eq_some_iff.1 hq).1
    simp at this;omega
   subst hi
   have hpe:p=⟨0,.arr b 0 cs.toList.length 1⟩:=by rw[←h.len] at hp;simpa using hp.symm
   have hqe:q=.arr 0 cs.toList.length [cs.toList.map ofV] false:=by simpa using hq.symm
   subst hpe;subst hqe
   refine⟨rfl,rfl,fun x=>⟨fun hx=>?_,fun hx=>.inr ⟨rfl,hx⟩⟩,by simp,by simp,by simp[maxLen],cs,t,hc,by simp,by simp,?_⟩
   ·rcases hx with hx | ⟨_,hx⟩
    ·exact absurd (h.out _ _ hx).1 (Nat.lt_irrefl _)
    ·exact hx
   ·intro i l k x hi hk
    cases i with
    | zero=>
     simp only[List.getElem?_cons_zero,Option.some.injEq] at hi
     subst hi
     rw[List.getElem?_map] at hk
     obtain⟨v,hv,rfl⟩:=Option.map_eq_some_iff.1 hk
     exact⟨v,by simpa using hv,h1 v (List.mem_of_getElem? hv),xc _ _ _ v⟩
    | succ i=>simp at hi
end
/-- What was made already. -/
structure zOb (P:Program) (F:Nat→Prop) (w0 w:World) (sb:SB):Prop where
 block:∀d p,sb d=some p→¬F p.1∧w0.heap.size≤p.1∧p.1<w.heap.size
 inj:∀d d' p p',sb d=some p→sb d'=some p'→p.1=p'.1→d=d'
 made:∀d p,sb d=some p→∃i z,P.info? p.2=some i∧i.zero=some z∧(∀v∈z.cells.toList,v.oneCell'=true)∧w.heap[p.1]? =some (.cells z.cells p.2 (0,0))
def Fp (F:Nat→Prop) (sb:SB) (b:Nat):Prop:=F b∨∃d p,sb d=some p∧b=p.1
def PSt (P:Program) (ds:List Deferred) (F:Nat→Prop) (e0:List Pos) (D0:Nat→Nat→Prop) (w0:World) (sb:SB) (fr:Fr) (PS:PL) (a:Act) (w:World):Prop:=
 a.defers=ds∧(∃e D,Rel (Fp F sb) e D PS w∧zy (Mut (Fp F sb) D) e w (ovr sb fr) a.tmps∧Tr e0 D0 w0 e D w)∧zOb P F w0 w sb
section
variable {P:Program} {pu:Pu} {ops:Array Oper} {PS:PL} {fr:Fr} {K:Fr→PL→Prop} {sb:SB} {ds:List Deferred} {F:Nat→Prop} {e0:List Pos} {D0:Nat→Nat→Prop} {w0 w:World} {a:Act} {Q:Exit→Act→World→Prop}
theorem PSt.begin (h:St ds F e0 D0 w0 fr PS a w):PSt P ds F e0 D0 w0 (fun _=>none) fr PS a w:=by
 obtain⟨hd,e,D,hr,hf,ht⟩:=h
 have hF:Fp F (fun _=>none)=F:=by
  funext b
  exact propext ⟨fun h=>h.elim id fun⟨_,_,h,_⟩=>(by cases h),.inl⟩
 refine⟨hd,⟨e,D,?_,?_,ht⟩,⟨fun d p h=>(by cases h),fun d d' p p' h=>(by cases h),fun d p h=>(by cases h)⟩⟩
 ·rw[hF];exact hr
 ·rw[hF,zEw];exact hf
theorem PSt.out (h:PSt P ds F e0 D0 w0 (fun _=>none) fr PS a w):St ds F e0 D0 w0 fr PS a w:=by
 obtain⟨hd,⟨e,D,hr,hf,ht⟩,_⟩:=h
 have hF:Fp F (fun _=>none)=F:=by
  funext b
  exact propext ⟨fun h=>h.elim id fun⟨_,_,h,_⟩=>(by cases h),.inl⟩
 rw[hF] at hr hf
 rw[zEw] at hf
 exact⟨hd,e,D,hr,hf,ht⟩
theorem PSt.alloc {o:Oper} {d:Tmp} {t:TypeId} {l:List HV} (ho:o.op=.alloc t) (hdst:o.dst=some d) (hz:qP P t=some l) (hsd:sb d=none) (h:PSt P ds F e0 D0 w0 sb fr PS a w):
  o.wp P a w (fun a' w'=>∃b,PSt P ds F e0 D0 w0 (fun i=>if i=d then some (b,t) else sb i) fr PS a' w') Q:=by
 obtain⟨hd,⟨e,D,hr,hf,ht⟩,hE⟩:=h
 obtain⟨i,z,hi,hz0,rfl,hk⟩:=QE hz
 have hzr:(zeroValue t).run P w=.ok z w:=by simp[zeroValue,typeInfo,hi,hz0]
 have hrun:(execOp a.eval o).run P w=.ok (.value (ptrTo w.heap.size)) (w.alloc (.cells z.cells t)):=by simp[execOp,ho,Instr.alloc,hzr,newVar,newRow,newObj,Sem.run,ptrTo]
 unfold Oper.wp
 rw[hrun,Oper.upon_value]
 have hF:∀b,Fp F (fun i=>if i=d then some (w.heap.size,t) else sb i) b↔Fp F sb b∨b=w.heap.size:=by
  intro b
  constructor
  ·rintro (hb | ⟨d',p,hp,rfl⟩)
   ·exact .inl (.inl hb)
   ·by_cases hdd:d'=d
    ·simp only[if_pos hdd,Option.some.injEq] at hp
     right;rw[←hp]
    ·simp only[if_neg hdd] at hp
     exact .inl (.inr ⟨d',p,hp,rfl⟩)
  ·rintro ((hb | ⟨d',p,hp,rfl⟩) | rfl)
   ·exact .inl hb
   ·have hdd:¬d'=d:=fun e=>by rw[e,hsd] at hp;cases hp
    exact .inr ⟨d',p,by simp only[if_neg hdd];exact hp,rfl⟩
   ·exact .inr ⟨d,(w.heap.size,t),by simp,rfl⟩
 obtain⟨hr',hs⟩:=hr.zQj (.cells z.cells t) hF
 have hf':=(hf.mono hs (.refl e)).put o.dst (.cst (ptrTo w.heap.size))
 rw[hdst,zG1 (t:=t)] at hf'
 have htr:Tr e D w e D (w.alloc (.cells z.cells t)):=⟨rfl,rfl,rfl,by simp,fun b hb _=>RowKit.Below.heap_alloc w _ b hb,fun i b h=>.inl ⟨i,h⟩,.refl e⟩
 refine⟨w.heap.size,?_,⟨e,D,hr',by rw[hdst];exact hf',ht.trans htr⟩,⟨fun d' p hp=>?_,fun d1 d2 p1 p2 hp1 hp2 he=>?_,fun d' p hp=>?_⟩⟩
 ·cases o.dst<;>exact hd
 ·by_cases hdd:d'=d
  ·simp only[if_pos hdd,Option.some.injEq] at hp
   subst hp
   exact⟨fun hf=>Nat.lt_irrefl _ (hr.fore _ (.inl hf)),ht.size,by simp⟩
  ·simp only[if_neg hdd] at hp
   obtain⟨b1,b2,b3⟩:=hE.block d' p hp
   exact⟨b1,b2,by simp;omega⟩
 ·by_cases hd1:d1=d<;>by_cases hd2:d2=d
  ·rw[hd1,hd2]
  ·simp only[if_pos hd1,if_neg hd2,Option.some.injEq] at hp1 hp2
   subst hp1
   have:=(hE.block d2 p2 hp2).2.2
   simp only at he;omega
  ·simp only[if_pos hd2,if_neg hd1,Option.some.injEq] at hp1 hp2
   subst hp2
   have:=(hE.block d1 p1 hp1).2.2
   simp only at he;omega
  ·simp only[if_neg hd1,if_neg hd2] at hp1 hp2
   exact hE.inj d1 d2 p1 p2 hp1 hp2 he
 ·by_cases hdd:d'=d
  ·simp only[if_pos hdd,Option.some.injEq] at hp
   subst hp
   exact⟨i,z,hi,hz0,hk,heap_alloc_new w _⟩
  ·simp only[if_neg hdd] at hp
   obtain⟨i',z',a1,a2,a3,a4⟩:=hE.made d' p hp
   exact⟨i',z',a1,a2,a3,(RowKit.Below.heap_alloc w _ _ (hE.block d' p hp).2.2).trans a4⟩
theorem PSt.step {i:Nat} {o:Oper} {X:Act→World→Prop} (hi:ops[i]? =some o) (h1:∀t∈o.looksAt ops,sb t=none) (h2:∀t,o.dst=some t→sb t=none) (h:qn P pu ops i K fr PS) (hst:PSt P ds F e0 D0 w0 sb fr PS a w)
  (hX:∀g PS' a' w',K g PS'→PSt P ds F e0 D0 w0 sb g PS' a' w'→X a' w'):wpOp P ops Q i X a w:=by
 obtain⟨hd,⟨e,D,hr,hf,ht⟩,hE⟩:=hst
 refine zBB (F:=Fp F sb) (e0:=e) (D0:=D) (w0:=w) ?_ (zKS hi h1 h2 h) ⟨hd,e,D,hr,hf,.refl e D w⟩
 rintro fr' PS' a' w' ⟨g,rfl,hk⟩ ⟨hd',e',D',hr',hf',ht'⟩
 refine hX g PS' a' w' hk ⟨hd',⟨e',D',hr',hf',ht.trans ht'⟩,?_⟩
 have hout:∀d p,sb d=some p→∀i,¬D i p.1:=fun d p hp i hi=>(hr.out i p.1 hi).2.2 (.inr ⟨d,p,hp,rfl⟩)
 exact⟨fun d p hp=>⟨(hE.block d p hp).1,(hE.block d p hp).2.1,Nat.lt_of_lt_of_le (hE.block d p hp).2.2 ht'.size⟩,hE.inj,fun d p hp=>by
  obtain⟨i,z,a1,a2,a3,a4⟩:=hE.made d p hp
  exact⟨i,z,a1,a2,a3,(ht'.keep p.1 (hE.block d p hp).2.2 (hout d p hp)).trans a4⟩⟩
/-- A component of what was computed,taken. -/
theorem PSt.extract {i j:Nat} {o:Oper} {x:Operand} (hi:ops[i]? =some o) (ho:o.op=.extract x j) (hg:o.guard=none) (h1:∀t∈o.looksAt ops,sb t=none) (h2:∀t,o.dst=some t→sb t=none) (h:qn P pu ops i K fr PS) (hst:PSt P ds F e0 D0 w0 sb fr PS a w):
  ∃v g,Yields P ops o v a∧K g PS∧PSt P ds F e0 D0 w0 sb g PS (a.put o.dst v) w:=by
 obtain⟨hd,⟨e,D,hr,hf,ht⟩,hE⟩:=hst
 unfold qn at h
 simp only[hi] at h
 unfold hgd at h
 rw[hg] at h
 obtain⟨dst,op,ty,pos,after,guard⟩:=o
 simp only at ho hg h1 h2
 subst ho;subst hg
 have h:wy (ev fr x) j (fun v=>K (zV fr dst v) PS):=h
 have he:ev (ovr sb fr) x=ev fr x:=by
  cases x with
  | tmp t=>exact Qm (h1 t (by simp[Oper.looksAt,Op.operands]))
  | _=>rfl
 have hx:=zw hf x
 rw[he] at hx
 generalize ev fr x=u at h hx
 cases u with
 | tup l=>
  obtain⟨y,hy,hK⟩:=h
  generalize hu:a.eval x=z at hx
  cases hx with
  | tup l vs hl hh=>
   have hj:j<vs.size:=by rw[hl];exact(List.getElem?_eq_some_iff.1 hy).1
   have hv:zH (Mut (Fp F sb) D) e w y vs[j]:=hh j y vs[j] hy (by simp[hj])
   refine⟨vs[j],_,.inl ⟨by simp[Region.wanted],fun w=>by simp[execOp,hu,Instr.extract,hj,Sem.run]⟩,hK,?_,⟨e,D,hr,?_,ht⟩,hE⟩
   ·cases dst<;>exact hd
   ·have:=hf.put dst hv
    rw[GV h2] at this
    exact this
 | _=>exact h.elim
theorem PSt.zQe {d b:Nat} {t:TypeId} {l:List HV} (hsd:sb d=some (b,t)) (hz:qP P t=some l) (h:PSt P ds F e0 D0 w0 sb fr PS a w):
  PSt P ds F e0 D0 w0 (fun i=>if i=d then none else sb i) (fr.set d (.ptr PS.length 0 0 0)) (PS++[.arr 0 l.length [l] false]) a w:=by
 obtain⟨hd,⟨e,D,hr,hf,ht⟩,hE⟩:=h
 obtain⟨i,z,hi,hz0,rfl,hk⟩:=QE hz
 obtain⟨i',z',hi',hz0',_,hc⟩:=hE.made d _ hsd
 simp only at hi' hc
 rw[hi] at hi';cases hi'
 rw[hz0] at hz0';cases hz0'
 obtain⟨hb1,hb2,hb3⟩:=hE.block d _ hsd
 simp only at hb1 hb2 hb3
 have hF:∀x,Fp F (fun i=>if i=d then none else sb i) x↔Fp F sb x∧x≠b:=by
  intro x
  constructor
  ·rintro (hx | ⟨d',p,hp,rfl⟩)
   ·exact⟨.inl hx,fun e=>hb1 (e▸hx)⟩
   ·by_cases hdd:d'=d
    ·simp only[if_pos hdd] at hp;cases hp
    ·simp only[if_neg hdd] at hp
     exact⟨.inr ⟨d',p,hp,rfl⟩,fun e=>hdd (hE.inj d' d p _ hp hsd e)⟩
  ·rintro⟨hx | ⟨d',p,hp,rfl⟩,hne⟩
   ·exact .inl hx
   ·have hdd:¬d'=d:=fun e=>by rw[e,hsd] at hp;cases hp;exact hne rfl
    exact .inr ⟨d',p,by simp only[if_neg hdd];exact hp,rfl⟩
 obtain⟨hr',hM⟩:=hr.zGm (.inr ⟨d,_,hsd,rfl⟩) hF hc hk
 have hlen:z.cells.toList.length=(z.cells.toList.map ofV).length:=by simp
 refine⟨hd,⟨_,_,by rw[←hlen];exact hr',?_,⟨ht.os,ht.tape,ht.output,ht.size,ht.keep,?_,ht.env.trans (.snoc _ _)⟩⟩,⟨fun d' p hp=>?_,fun d1 d2 p1 p2 hp1 hp2 he=>?_,fun d' p hp=>?_⟩⟩
 ·rw[hM]
  refine⟨by rw[WE,List.length_set,←hf.1,WE],fun i x u hx hu=>?_⟩
  rw[kB,List.getElem?_set] at hx
  by_cases hid:d=i
  ·subst hid
   have hlt:d<fr.length:=by rw[←WE sb fr,hf.1];exact(Array.getElem?_eq_some_iff.1 hu).1
   simp only[if_true,hlt,Option.map_some,Option.some.injEq] at hx
   subst hx
   have h0:=hf.2 d (.cst (ptrTo b)) u (by rw[kB];simp[hlt,hsd]) hu
   cases h0
   exact .ptr PS.length 0 0 0 _ ⟨0,.arr b 0 z.cells.toList.length 1⟩ (by rw[←hr.len];simp) (Nat.le_refl _) (fun _=>by simp[kq,ptrTo]) rfl
  ·have hdi:¬i=d:=fun e=>hid e.symm
   simp only[if_neg hid,if_neg hdi] at hx
   have:=hf.2 i x u (by rw[kB];exact hx) hu
   exact this.mono (.refl _ _) (.snoc _ _)
 ·intro i x hx
  rcases hx with hx | ⟨_,rfl⟩
  ·exact ht.own i x hx
  ·exact .inr hb2
 ·by_cases hdd:d'=d
  ·simp only[if_pos hdd] at hp;cases hp
  ·simp only[if_neg hdd] at hp;exact hE.block d' p hp
 ·by_cases hd1:d1=d
  ·simp only[if_pos hd1] at hp1;cases hp1
  ·by_cases hd2:d2=d
   ·simp only[if_pos hd2] at hp2;cases hp2
   ·simp only[if_neg hd1,if_neg hd2] at hp1 hp2;exact hE.inj d1 d2 p1 p2 hp1 hp2 he
 ·by_cases hdd:d'=d
  ·simp only[if_pos hdd] at hp;cases hp
  ·simp only[if_neg hdd] at hp;exact hE.made d' p hp
theorem KD:∀(J:List Nat) (sb:SB) (fr:Fr) (PS:PL),J.Nodup→(∀j∈J,∀j'∈J,∀d t t',wI ops j=some (d,t)→wI ops j'=some (d,t')→j=j')→
  (∀j∈J,∃d t b,wI ops j=some (d,t)∧sb d=some (b,t))→(∀d p,sb d=some p→∃j∈J,∃t,wI ops j=some (d,t))→
  PSt P ds F e0 D0 w0 sb fr PS a w→uk P ops K J fr PS→∃fr' PS',K fr' PS'∧St ds F e0 D0 w0 fr' PS' a w
 | [],sb,fr,PS,_,_,_,h3,hst,h=>by
  have:sb=fun _=>none:=by
   funext d
   cases hs:sb d with
   | none=>rfl
   | some p=>obtain⟨j,hj,_⟩:=h3 d p hs;cases hj
  subst this
  exact⟨fr,PS,h,hst.out⟩
 | j::J,sb,fr,PS,hnd,h1,h2,h3,hst,h=>by
  obtain⟨d,t,b,hl,hs⟩:=h2 j (List.mem_cons_self ..)
  have hjJ:=(List.nodup_cons.1 hnd).1
  simp only[uk,hl,uY] at h
  cases hz:qP P t with
  | none=>rw[hz] at h;exact h.elim
  | some l=>
   rw[hz] at h
   simp only at h
   refine KD J _ _ _ (List.nodup_cons.1 hnd).2 (fun a ha b hb=>h1 a (List.mem_cons_of_mem _ ha) b (List.mem_cons_of_mem _ hb)) (fun j' hj'=>?_) (fun d' p hp=>?_) (hst.zQe hs hz) h
   ·obtain⟨d',t',b',hl',hs'⟩:=h2 j' (List.mem_cons_of_mem _ hj')
    have hdd:¬d'=d:=fun e=>by
     subst e
     have:=h1 j (List.mem_cons_self ..) j' (List.mem_cons_of_mem _ hj') d' t t' hl hl'
     subst this;exact hjJ hj'
    exact⟨d',t',b',hl',by simp only[if_neg hdd];exact hs'⟩
   ·by_cases hdd:d'=d
    ·simp only[if_pos hdd] at hp;cases hp
    ·simp only[if_neg hdd] at hp
     obtain⟨j',hj',t',hl'⟩:=h3 d' p hp
     rcases List.mem_cons.1 hj' with rfl | hj'
     ·rw[hl] at hl';cases hl';exact absurd rfl hdd
     ·exact⟨j',hj',t',hl'⟩
/-! ### Every order -/
/-- What is asked of operations:J make variables,wait for nothing;dp wait for all others;others do not look at what J make. -/
structure zDt (ops:Array Oper) (J:List Nat) (dp:Nat→Bool) (V:Nat→Bool):Prop where
 nod:J.Nodup
 slots:∀j∈J,∀j'∈J,∀d t t',wI ops j=some (d,t)→wI ops j'=some (d,t')→j=j'
 jdp:∀j∈J,dp j=false
 maf:∀(k:Nat) (o:Oper),ops[k]? =some o→dp k=false→∀e∈o.after,Region.binds .any e=true→dp e.on=false∧e.on<k∧e.on∉J
 msl:∀(k:Nat) (o:Oper),ops[k]? =some o→dp k=false→k∉J→∀j∈J,∀d t,wI ops j=some (d,t)→d∉o.looksAt ops∧o.dst≠some d
 daf:∀(k:Nat) (o:Oper),ops[k]? =some o→dp k=true→∀m,m<ops.size→dp m=false→V m=true∨∃e∈o.after,Region.binds .any e=true∧e.on=m
 vop:∀k,V k=true→dp k=false∧∃o x j,ops[k]? =some o∧o.op=.extract x j∧o.guard=none
 vap:∀(k:Nat) (o:Oper),V k=true→ops[k]? =some o→∀(j:Nat) (oj:Oper),ops[j]? =some oj→j≠k→(∃e∈o.after,Region.binds .any e=true∧e.on=j)∨(∃e∈oj.after,Region.binds .any e=true∧e.on=k)∨o.apart ops oj=true
 sel:Region.noSelect ops=true
def cnt (ops:Array Oper) (listed:Array Bool):Nat:=((List.range ops.size).filter fun k=>!listed.getD k true).length
theorem Jh {f g:Nat→Bool} {i:Nat}:∀(l:List Nat),(∀k,g k=true→f k=true)→i∈l→f i=true→g i=false→(l.filter g).length<(l.filter f).length
 | [],_,h,_,_=>by cases h
 | a::l,hfg,hi,h1,h2=>by
  have hle:∀l:List Nat,(l.filter g).length≤(l.filter f).length:=by
   intro l
   induction l with
   | nil=>simp
   | cons b l ih=>
    rw[List.filter_cons,List.filter_cons]
    cases hg:g b
    ·cases hf:f b<;>simp<;>omega
    ·rw[hfg b hg];simpa using ih
  rw[List.filter_cons,List.filter_cons]
  rcases List.mem_cons.1 hi with rfl | hi
  ·rw[h1,h2]
   have:=hle l
   simp;omega
  ·have ih:=Jh l hfg hi h1 h2
   cases hg:g a
   ·cases hf:f a<;>simp<;>omega
   ·rw[hfg a hg];simpa using ih
theorem zEb {listed:Array Bool} {i:Nat} (hi:i<ops.size) (hu:listed.getD i true=false):cnt ops (listed.setIfInBounds i true)<cnt ops listed:=by
 unfold cnt
 refine Jh (i:=i) _ (fun k hk=>?_) (List.mem_range.2 hi) (by rw[hu];rfl) ?_
 ·by_cases hik:i=k
  ·subst hik
   rw[hu];rfl
  ·rwa [getD_set_ne true hik] at hk
 ·have hlt:i<listed.size:=by
   rcases Nat.lt_or_ge i listed.size with h' | h'
   ·exact h'
   ·simp[Array.getElem?_eq_none h'] at hu
  simp[hlt]
theorem jd {l:Array Bool} {i:Nat} (h:i<l.size) (b c:Bool):l.getD i b=l.getD i c:=by simp[h]
theorem xD {l:Array Bool} {i j:Nat} (h:j<l.size):(l.setIfInBounds i true).getD j false=(l.getD j false || decide (j=i)):=by
 by_cases hij:i=j
 ·subst hij;simp[h]
 ·have:¬j=i:=fun e=>hij e.symm
  rw[getD_set_ne false hij];simp[this]
theorem zMv {J:List Nat} {dp V:Nat→Bool} (hok:zDt ops J dp V) (hzz:hz P ops J) (hQp:∀c a w,¬Q (.panic c) a w) {chk:Chk} {n2:Nat} (hn2:n2=((List.range ops.size).filter dp).length)
  (H2:∀(n:Nat) (listed:Array Bool) (fr:Fr) (PS:PL) (a:Act) (w:World),listed.size=ops.size→(∀k,k<ops.size→listed.getD k false= !dp k)→n2≤n→K fr PS→St ds F e0 D0 w0 fr PS a w→wpAny P .any ops Q n listed a w):
  ∀(n m:Nat) (listed la:Array Bool) (sb:SB) (fr:Fr) (PS:PL) (a:Act) (w:World),listed.size=ops.size→la.size=ops.size→(∀k,k<ops.size→dp k=true→listed.getD k false=false)→
   (∀k,k<ops.size→la.getD k false=(listed.getD k false || decide (k∈J) || dp k))→cnt ops listed≤n→
   (∀j∈J,∀d t,wI ops j=some (d,t)→listed.getD j false=true→∃b,sb d=some (b,t))→(∀d p,sb d=some p→∃j∈J,∃t,wI ops j=some (d,t)∧listed.getD j false=true)→
   vI P pu ops chk (uk P ops K J) m la fr PS→PSt P ds F e0 D0 w0 sb fr PS a w→wpAny P .any ops Q n listed a w:=by
 intro n
 induction n with
 | zero=>
  intro m listed la sb fr PS a w hsz hsl hdu hla hcn hs1 hs2 h hst
  have hall:∀k,k<ops.size→listed.getD k false=true:=by
   intro k hk
   cases hc:listed.getD k false with
   | true=>rfl
   | false=>
    have:=Jh (f:=fun k=>!listed.getD k true) (g:=fun _=>false) (i:=k) (List.range ops.size) (fun _ h=>by cases h) (List.mem_range.2 hk) (by show (!listed.getD k true)=true;rw[jd (by omega) true false,hc];rfl) rfl
    unfold cnt at hcn
    omega
  have hrdy:Region.ready .any ops la=[]:=by
   refine List.eq_nil_iff_forall_not_mem.2 fun j hj=>?_
   obtain⟨h0,o,ho,_⟩:=mem_ready.1 hj
   have hlt:j<ops.size:=(Array.getElem?_eq_some_iff.1 ho).1
   rw[jd (by omega) true false,hla j hlt,hall j hlt] at h0
   simp at h0
  have hK1:uk P ops K J fr PS:=by
   cases m with
   | zero=>exact h.2
   | succ m=>exact h.1 hrdy
  obtain⟨fr',PS',hk,hst'⟩:=KD J sb fr PS hok.nod hok.slots (fun j hj=>by
   obtain⟨d,t,l,hl,_⟩:=hzz j hj
   obtain⟨ty,pos,af,ho⟩:=xr hl
   obtain⟨b,hb⟩:=hs1 j hj d t hl (hall j (Array.getElem?_eq_some_iff.1 ho).1)
   exact⟨d,t,b,hl,hb⟩) (fun d p hp=>by obtain⟨j,hj,t,hl,_⟩:=hs2 d p hp;exact⟨j,hj,t,hl⟩) hst hK1
  have hnd:∀k,k<ops.size→dp k=false:=fun k hk=>by
   cases hd:dp k with
   | false=>rfl
   | true=>have:=hdu k hk hd;rw[hall k hk] at this;cases this
  refine H2 0 listed fr' PS' a w hsz (fun k hk=>by rw[hall k hk,hnd k hk];rfl) ?_ hk hst'
  rw[hn2]
  have:(List.range ops.size).filter dp=[]:=List.filter_eq_nil_iff.2 fun k hk=>by rw[hnd k (List.mem_range.1 hk)];simp
  rw[this];simp
 | succ n ih=>
  intro m listed la sb fr PS a w hsz hsl hdu hla hcn hs1 hs2 h hst
  by_cases hall:∀k,k<ops.size→dp k=false→listed.getD k false=true
  ·have hpt:∀k,k<ops.size→listed.getD k false= !dp k:=fun k hk=>by
    cases hd:dp k with
    | false=>rw[hall k hk hd];rfl
    | true=>rw[hdu k hk hd];rfl
   have hrdy:Region.ready .any ops la=[]:=by
    refine List.eq_nil_iff_forall_not_mem.2 fun j hj=>?_
    obtain⟨h0,o,ho,_⟩:=mem_ready.1 hj
    have hlt:j<ops.size:=(Array.getElem?_eq_some_iff.1 ho).1
    rw[jd (by omega) true false,hla j hlt,hpt j hlt] at h0
    cases hd:dp j<;>rw[hd] at h0<;>simp at h0
   have hK1:uk P ops K J fr PS:=by
    cases m with
    | zero=>exact h.2
    | succ m=>exact h.1 hrdy
   obtain⟨fr',PS',hk,hst'⟩:=KD J sb fr PS hok.nod hok.slots (fun j hj=>by
    obtain⟨d,t,l,hl,_⟩:=hzz j hj
    obtain⟨ty,pos,af,ho⟩:=xr hl
    obtain⟨b,hb⟩:=hs1 j hj d t hl (hall j (Array.getElem?_eq_some_iff.1 ho).1 (hok.jdp j hj))
    exact⟨d,t,b,hl,hb⟩) (fun d p hp=>by obtain⟨j,hj,t,hl,_⟩:=hs2 d p hp;exact⟨j,hj,t,hl⟩) hst hK1
   refine H2 (n+1) listed fr' PS' a w hsz hpt ?_ hk hst'
   refine Nat.le_trans (Nat.le_of_eq ?_) hcn
   rw[hn2]
   unfold cnt
   congr 1
   refine List.filter_congr fun k hk=>?_
   have hlt:=List.mem_range.1 hk
   rw[jd (by omega) true false,hpt k hlt];simp
  ·have hex:∃k,k<ops.size∧dp k=false∧listed.getD k false=false:=by
    refine Classical.byContradiction fun hn=>hall fun k hk hd=>?_
    cases hc:listed.getD k false with
    | true=>rfl
    | false=>exact absurd ⟨k,hk,hd,hc⟩ hn
   obtain⟨k1,hk1⟩:=hex
   obtain⟨k0,⟨hk0,hd0,hu0⟩,hmin⟩:=Xn (fun k=>k<ops.size∧dp k=false∧listed.getD k false=false) k1 hk1
   have ho0:ops[k0]? =some ops[k0]:=by simp[hk0]
   have hr0:k0∈Region.ready .any ops listed:=by
    refine mem_ready.2 ⟨by rw[jd (by omega) true false];exact hu0,_,ho0,fun e he hb=>?_⟩
    obtain⟨a1,a2,_⟩:=hok.maf k0 _ ho0 hd0 e he hb
    cases hc:listed.getD e.on false with
    | true=>rfl
    | false=>have:=hmin e.on ⟨by omega,a1,hc⟩;omega
   have hno:∀s,(∃j∈J,∃t,wI ops j=some (s,t))∨sb s=none:=fun s=>by
    cases hs:sb s with
    | none=>exact .inr rfl
    | some p=>obtain⟨j,hj,t,hl,_⟩:=hs2 s p hs;exact .inl ⟨j,hj,t,hl⟩
   have next:∀i,i<ops.size→listed.getD i true=false→dp i=false→i∉J→∀(m:Nat) (g:Fr) (PS':PL) (a':Act) (w':World),vI P pu ops chk (uk P ops K J) m (la.setIfInBounds i true) g PS'→PSt P ds F e0 D0 w0 sb g PS' a' w'→wpAny P .any ops Q n (listed.setIfInBounds i true) a' w':=by
    intro i hilt hl0 hdi hiJ m g PS' a' w' hk hp
    have hcn':cnt ops (listed.setIfInBounds i true)≤n:=by
     have:=zEb (ops:=ops) hilt hl0
     omega
    have hsz':(listed.setIfInBounds i true).size=ops.size:=by simpa using hsz
    have hdu':∀k,k<ops.size→dp k=true→(listed.setIfInBounds i true).getD k false=false:=fun k hk hd=>by
     have hne:¬k=i:=fun e=>by rw[e,hdi] at hd;cases hd
     rw[xD (by omega),hdu k hk hd];simp[hne]
    refine ih m (listed.setIfInBounds i true) (la.setIfInBounds i true) sb g PS' a' w' hsz' (by simpa using hsl) hdu' (fun k hk=>?_) hcn' (fun j hj d t hl hlj=>?_) (fun d p hp'=>?_) hk hp
    ·rw[xD (by omega),xD (by omega),hla k hk]
     cases listed.getD k false<;>cases decide (k∈J)<;>cases dp k<;>simp
    ·have hji:¬j=i:=fun e=>hiJ (e▸hj)
     have hjlt:j<ops.size:=by
      obtain⟨_,_,_,ho'⟩:=xr hl
      exact(Array.getElem?_eq_some_iff.1 ho').1
     rw[xD (by omega)] at hlj
     simp[hji] at hlj
     exact hs1 j hj d t hl (by simpa using hlj)
    ·obtain⟨j,hj,t,hl,hlj⟩:=hs2 d p hp'
     exact⟨j,hj,t,hl,getD_set_true hlj⟩
   have rdy:∀i,i∈Region.ready .any ops listed→dp i=false→i∉J→i∈Region.ready .any ops la:=by
    intro i hi hdi hiJ
    obtain⟨hl0,oi,hoi,hai⟩:=mem_ready.1 hi
    have hilt:i<ops.size:=(Array.getElem?_eq_some_iff.1 hoi).1
    have hlf:listed.getD i false=false:=by rw[jd (by omega) false true];exact hl0
    refine mem_ready.2 ⟨by rw[jd (by omega) true false,hla i hilt,hlf,hdi];simp[hiJ],oi,hoi,fun e he hb=>?_⟩
    have h1:=hai e he hb
    have helt:e.on<ops.size:=by
     rcases Nat.lt_or_ge e.on listed.size with h' | h'
     ·omega
     ·simp[Array.getElem?_eq_none h'] at h1
    rw[hla e.on helt,h1];rfl
   by_cases hV:∃i∈Region.ready .any ops listed,V i=true
   ·obtain⟨i,hi,hVi⟩:=hV
    obtain⟨hdi,o,x,jx,hoi,hox,hog⟩:=hok.vop i hVi
    have hiJ:i∉J:=fun hm=>by
     obtain⟨d,t,l,hlo,_⟩:=hzz i hm
     obtain⟨_,_,_,ho'⟩:=xr hlo
     rw[hoi] at ho';cases ho';cases hox
    obtain⟨hl0,oi,hoi',hai⟩:=mem_ready.1 hi
    rw[hoi] at hoi';cases hoi'
    have hilt:i<ops.size:=(Array.getElem?_eq_some_iff.1 hoi).1
    have hira:=rdy i hi hdi hiJ
    cases m with
    | zero=>rw[h.1] at hira;cases hira
    | succ m=>
     have s1:∀s∈o.looksAt ops,sb s=none:=fun s hs=>by
      rcases hno s with ⟨j,hj,t,hl⟩ | h'
      ·exact absurd hs (hok.msl i o hoi hdi hiJ j hj s t hl).1
      ·exact h'
     have s2:∀s,o.dst=some s→sb s=none:=fun s hs=>by
      rcases hno s with ⟨j,hj,t,hl⟩ | h'
      ·exact absurd hs (hok.msl i o hoi hdi hiJ j hj s t hl).2
      ·exact h'
     obtain⟨v,g,hy,hk,hp⟩:=PSt.extract (sb:=sb) hoi hox hog s1 s2 (h.2 i hira) hst
     refine wpAny_first hoi (Region.noSelect_spec hok.sel) (fun c a w hq=>absurd hq (hQp c _ w)) n listed a w (fun j oj hj hne hun hnw=>?_) hi hy (next i hilt hl0 hdi hiJ m g PS _ w hk.2 hp)
     rcases hok.vap i o hVi hoi j oj hj hne with ⟨e,he,hb,heo⟩ | ⟨e,he,hb,heo⟩ | h'
     ·have:=hai e he hb
      have hjlt:j<ops.size:=(Array.getElem?_eq_some_iff.1 hj).1
      rw[heo,jd (by omega) false true,hun] at this;cases this
     ·exact absurd heo (hnw e he hb)
     ·exact h'
   refine⟨fun h0=>(by rw[h0] at hr0;cases hr0),fun i hi=>?_⟩
   obtain⟨hl0,oi,hoi,hai⟩:=mem_ready.1 hi
   have hilt:i<ops.size:=(Array.getElem?_eq_some_iff.1 hoi).1
   have hlf:listed.getD i false=false:=by rw[jd (by omega) false true];exact hl0
   have hdi:dp i=false:=by
    cases hd:dp i with
    | false=>rfl
    | true=>
     rcases hok.daf i oi hoi hd k0 hk0 hd0 with hv | ⟨e,he,hb,heo⟩
     ·exact absurd ⟨k0,hr0,hv⟩ hV
     ·have:=hai e he hb
      rw[heo,hu0] at this;cases this
   have hcn':cnt ops (listed.setIfInBounds i true)≤n:=by
    have:=zEb (ops:=ops) hilt hl0
    omega
   have hsz':(listed.setIfInBounds i true).size=ops.size:=by simpa using hsz
   have hdu':∀k,k<ops.size→dp k=true→(listed.setIfInBounds i true).getD k false=false:=fun k hk hd=>by
    have hne:¬k=i:=fun e=>by rw[e,hdi] at hd;cases hd
    rw[xD (by omega),hdu k hk hd];simp[hne]
   by_cases hiJ:i∈J
   ·obtain⟨d,t,l,hlo,hzl⟩:=hzz i hiJ
    obtain⟨ty,pos,af,ho⟩:=xr hlo
    rw[hoi] at ho
    cases ho
    have hsd:sb d=none:=by
     cases hs:sb d with
     | none=>rfl
     | some p=>
      obtain⟨j,hj,t',hl',hlj⟩:=hs2 d p hs
      have:=hok.slots i hiJ j hj d t t' hlo hl'
      subst this
      rw[hlf] at hlj;cases hlj
    unfold wpOp
    rw[hoi]
    simp only[Region.wanted,if_true]
    refine .inl (Oper.wp_mono ?_ (hst.alloc (o:=⟨some d,.alloc t,ty,pos,af,none⟩) rfl rfl hzl hsd))
    rintro a' w' ⟨b,hp⟩
    refine ih m (listed.setIfInBounds i true) la _ fr PS a' w' hsz' hsl hdu' (fun k hk=>?_) hcn' (fun j hj d' t' hl' hlj=>?_) (fun d' p hp'=>?_) h hp
    ·rw[hla k hk,xD (by omega)]
     by_cases hki:k=i
     ·subst hki;simp[hiJ]
     ·simp[hki]
    ·by_cases hdd:d'=d
     ·subst hdd
      have:=hok.slots i hiJ j hj d' t t' hlo hl'
      subst this
      rw[hlo] at hl';cases hl'
      exact⟨b,by simp⟩
     ·have hji:¬j=i:=fun e=>by subst e;rw[hlo] at hl';cases hl';exact hdd rfl
      have hjlt:j<ops.size:=by
       obtain⟨_,_,_,ho'⟩:=xr hl'
       exact(Array.getElem?_eq_some_iff.1 ho').1
      rw[xD (by omega)] at hlj
      simp[hji] at hlj
      obtain⟨b',hb'⟩:=hs1 j hj d' t' hl' (by simpa using hlj)
      exact⟨b',by simp only[if_neg hdd];exact hb'⟩
    ·by_cases hdd:d'=d
     ·subst hdd
      exact⟨i,hiJ,t,hlo,by rw[xD (by omega)];simp⟩
     ·simp only[if_neg hdd] at hp'
      obtain⟨j,hj,t',hl',hlj⟩:=hs2 d' p hp'
      exact⟨j,hj,t',hl',getD_set_true hlj⟩
   ·have hira:i∈Region.ready .any ops la:=by
     refine mem_ready.2 ⟨by rw[jd (by omega) true false,hla i hilt,hlf,hdi];simp[hiJ],oi,hoi,fun e he hb=>?_⟩
     have h1:=hai e he hb
     have helt:e.on<ops.size:=by
      rcases Nat.lt_or_ge e.on listed.size with h' | h'
      ·omega
      ·simp[Array.getElem?_eq_none h'] at h1
     rw[hla e.on helt,h1];rfl
    cases m with
    | zero=>rw[h.1] at hira;cases hira
    | succ m=>
     refine PSt.step hoi (fun s hs=>?_) (fun s hs=>?_) (h.2 i hira) hst fun g PS' a' w' hk hp=>next i hilt hl0 hdi hiJ m g PS' a' w' hk.2 hp
     ·rcases hno s with ⟨j,hj,t,hl⟩ | h'
      ·exact absurd hs (hok.msl i oi hoi hdi hiJ j hj s t hl).1
      ·exact h'
     ·rcases hno s with ⟨j,hj,t,hl⟩ | h'
      ·exact absurd hs (hok.msl i oi hoi hdi hiJ j hj s t hl).2
      ·exact h'
theorem zCQ {chk:Chk}:∀(n m:Nat) (listed:Array Bool) (fr:Fr) (PS:PL),n≤m→vI P pu ops chk K n listed fr PS→vI P pu ops chk K m listed fr PS
 | 0,m,_,_,_,_,h=>zFg h.1 h.2
 | n+1,0,_,_,_,hl,_=>by omega
 | n+1,m+1,_,_,_,hl,h=>⟨h.1,fun i hi=>Uu (fun _ _ hk=>⟨hk.1,zCQ n m _ _ _ (by omega) hk.2⟩) (h.2 i hi)⟩
/-! ### Checked by tables -/
def xz:List Nat→Bool
 | []=>true
 | a::l=>!l.contains a&&xz l
theorem zFv:∀{l:List Nat},xz l=true→l.Nodup
 | [],_=>List.nodup_nil
 | a::l,h=>by
  simp only[xz,Bool.and_eq_true,Bool.not_eq_true',List.contains_eq_mem,decide_eq_false_iff_not] at h
  exact List.nodup_cons.2 ⟨h.1,zFv h.2⟩
theorem zCY {f:Nat→Nat}:∀{l:List Nat},xz (l.map f)=true→∀j∈l,∀j'∈l,f j=f j'→j=j'
 | [],_,j,hj,_,_,_=>by cases hj
 | a::l,h,j,hj,j',hj',e=>by
  simp only[List.map_cons,xz,Bool.and_eq_true,Bool.not_eq_true',List.contains_eq_mem,decide_eq_false_iff_not] at h
  rcases List.mem_cons.1 hj with h1 | h1
  ·rcases List.mem_cons.1 hj' with h2 | h2
   ·rw[h1,h2]
   ·exact absurd (by rw[←h1,e];exact List.mem_map.2 ⟨j',h2,rfl⟩) h.1
  ·rcases List.mem_cons.1 hj' with h2 | h2
   ·exact absurd (by rw[←h2,←e];exact List.mem_map.2 ⟨j,h1,rfl⟩) h.1
   ·exact zCY h.2 j h1 j' h2 e
def Zk (jm dp sm mj k:Nat) (r:Row):Bool:=
 if dp.testBit k=true then r.after&&& mj == mj else r.after&&& (dp ||| jm) == 0&&decide (r.after<2 ^ k)&&(jm.testBit k || (r.looks&&& sm == 0&&r.dst&&& sm == 0))
def QG (jm dp sm mj:Nat):List Row→Nat→Bool
 | [],_=>true
 | r::l,k=>Zk jm dp sm mj k r&&QG jm dp sm mj l (k+1)
theorem zDq {jm dp sm mj:Nat}:∀(l:List Row) (k:Nat),QG jm dp sm mj l k=true→∀(j:Nat) (r:Row),l[j]? =some r→Zk jm dp sm mj (k+j) r=true
 | [],_,_,j,r,h=>by simp at h
 | x::l,k,h,j,r,hj=>by
  simp only[QG,Bool.and_eq_true] at h
  cases j with
  | zero=>simp at hj;subst hj;exact h.1
  | succ j=>
   have:=zDq l (k+1) h.2 j r (by simpa using hj)
   rwa [show k+(j+1)=k+1+j by omega]
def Zh (ops:Array Oper) (j:Nat):Nat:=
 match wI ops j with
 | some (d,_)=>d
 | none=>0
theorem Qx {j:Nat} {d:Tmp} {t:TypeId} (h:wI ops j=some (d,t)):Zh ops j=d:=by unfold Zh;rw[h]
/-- Components taken,unguarded,that nothing hurts:they may come first. -/
def xOp (ops:Array Oper) (k:Nat):Bool:=
 match ops[k]? with
 | some ⟨_,.extract _ _,_,_,_,none⟩=>true
 | _=>false
theorem zIl {k:Nat} (h:xOp ops k=true):∃o x j,ops[k]? =some o∧o.op=.extract x j∧o.guard=none:=by
 unfold xOp at h
 split at h
 ·rename_i ho;exact⟨_,_,_,ho,rfl,rfl⟩
 ·cases h
def Vl (k:Nat) (x:Row):List Row→Nat→Bool
 | [],_=>true
 | r::l,j=>(j == k || x.after.testBit j || r.after.testBit k || YT x r)&&Vl k x l (j+1)
theorem zEg {k:Nat} {x:Row}:∀(l:List Row) (i:Nat),Vl k x l i=true→∀(j:Nat) (r:Row),l[j]? =some r→i+j=k∨x.after.testBit (i+j)=true∨r.after.testBit k=true∨YT x r=true
 | [],_,_,j,r,h=>by simp at h
 | y::l,i,h,j,r,hj=>by
  simp only[Vl,Bool.and_eq_true,Bool.or_eq_true,beq_iff_eq] at h
  cases j with
  | zero=>
   simp at hj;subst hj
   rcases h.1 with ((h' | h') | h') | h'
   ·exact .inl h'
   ·exact .inr (.inl h')
   ·exact .inr (.inr (.inl h'))
   ·exact .inr (.inr (.inr h'))
  | succ j=>
   have:=zEg l (i+1) h.2 j r (by simpa using hj)
   rwa [show i+1+j=i+(j+1) by omega] at this
def GY (ops:Array Oper) (tab:List Row) (dp k:Nat):Bool:=!dp.testBit k&&xOp ops k&&match tab[k]? with
 | some x=>Vl k x tab 0
 | none=>false
def Xr (ops:Array Oper) (tab:List Row) (dp n:Nat):Nat:=wG ((List.range n).filter (GY ops tab dp))
def WY (ops:Array Oper) (tab:List Row) (J:List Nat) (dp:Nat) (p1 p2:zL) (n:Nat):Bool:=
 J.all (fun j=>(wI ops j).isSome&& !dp.testBit j)&&xz J&&xz (J.map (Zh ops))&&decide (dp<2 ^ n)&&Region.noSelect ops&&QG (wG J) dp (wG (J.map (Zh ops))) ((2 ^ n - 1) ^^^ (dp ||| Xr ops tab dp n)) tab 0&&
 wQ tab p1 [] n (wG J ||| dp) none&&wQ tab p2 [] ((List.range n).filter dp.testBit).length ((2 ^ n - 1) ^^^ dp) none
theorem zGB {o:Oper} {e:Edge} (he:e∈o.after) (hb:Region.binds .any e=true):(rowOf pu ops o).after.testBit e.on=true:=
 (qZ _ _).2 (List.mem_map.2 ⟨e,List.mem_filter.2 ⟨Array.mem_toList_iff.2 he,hb⟩,rfl⟩)
theorem zRm {J:List Nat} {dp:Nat} {p1 p2:zL} (h:WY ops (yp pu ops) J dp p1 p2 ops.size=true):zDt ops J dp.testBit (Xr ops (yp pu ops) dp ops.size).testBit∧(∀j∈J,j<ops.size)∧dp<2 ^ ops.size:=by
 simp only[WY,Bool.and_eq_true,decide_eq_true_eq] at h
 obtain⟨⟨⟨⟨⟨⟨⟨hJ,hn1⟩,hn2⟩,hdp⟩,hsel⟩,ht⟩,_⟩,_⟩:=h
 have hJ':∀j∈J,(∃d t,wI ops j=some (d,t))∧dp.testBit j=false:=fun j hj=>by
  have:=List.all_eq_true.1 hJ j hj
  simp only[Bool.and_eq_true,Bool.not_eq_true',Option.isSome_iff_exists] at this
  obtain⟨⟨⟨d,t⟩,h1⟩,h2⟩:=this
  exact⟨⟨d,t,h1⟩,h2⟩
 have hlt:∀j∈J,j<ops.size:=fun j hj=>by
  obtain⟨⟨d,t,h1⟩,_⟩:=hJ' j hj
  obtain⟨_,_,_,ho⟩:=xr h1
  exact(Array.getElem?_eq_some_iff.1 ho).1
 have row:∀(k:Nat) (o:Oper),ops[k]? =some o→Zk (wG J) dp (wG (J.map (Zh ops))) ((2 ^ ops.size - 1) ^^^ (dp ||| Xr ops (yp pu ops) dp ops.size)) k (rowOf pu ops o)=true:=fun k o ho=>by
  have:=zDq _ 0 ht k _ (xy (pu:=pu) ho)
  rwa [Nat.zero_add] at this
 have edge:∀(o:Oper) (m:Nat),(rowOf pu ops o).after.testBit m=true→∃e∈o.after,Region.binds .any e=true∧e.on=m:=fun o m h=>by
  obtain⟨e,he,rfl⟩:=List.mem_map.1 ((qZ _ _).1 h)
  obtain⟨he,hbind⟩:=List.mem_filter.1 he
  exact⟨e,Array.mem_toList_iff.1 he,hbind,rfl⟩
 refine⟨⟨zFv hn1,fun j hj j' hj' d t t' h1 h2=>zCY hn2 j hj j' hj' (by rw[Qx h1,Qx h2]),fun j hj=>(hJ' j hj).2,?_,?_,?_,?_,?_,hsel⟩,hlt,hdp⟩
 ·intro k o ho hd e he hb
  have hr:=row k o ho
  have ha:=zGB (pu:=pu) (ops:=ops) he hb
  unfold Zk at hr
  rw[if_neg (by rw[hd];simp)] at hr
  simp only[Bool.and_eq_true,beq_iff_eq,decide_eq_true_eq] at hr
  have h1:=kA hr.1.1 ha
  rw[Nat.testBit_or,Bool.or_eq_false_iff] at h1
  refine⟨h1.1,?_,fun hm=>?_⟩
  ·rcases Nat.lt_or_ge e.on k with h' | h'
   ·exact h'
   ·have:=Nat.testBit_lt_two_pow (Nat.lt_of_lt_of_le hr.1.2 (Nat.pow_le_pow_right (by omega) h'))
    rw[ha] at this;cases this
  ·rw[(qZ _ _).2 hm] at h1;cases h1.2
 ·intro k o ho hd hk j hj d t hl
  have hr:=row k o ho
  unfold Zk at hr
  rw[if_neg (by rw[hd];simp)] at hr
  simp only[Bool.and_eq_true,beq_iff_eq,decide_eq_true_eq,Bool.or_eq_true] at hr
  have hs:(wG (J.map (Zh ops))).testBit d=true:=(qZ _ _).2 (List.mem_map.2 ⟨j,hj,Qx hl⟩)
  rcases hr.2 with h' | h'
  ·exact absurd ((qZ _ _).1 h') hk
  ·refine⟨fun hm=>?_,fun he=>?_⟩
   ·have:=kA h'.1 (i:=d) ((qZ _ _).2 hm)
    rw[hs] at this;cases this
   ·have:=kA h'.2 (i:=d) ((qZ _ _).2 (by simp[he]))
    rw[hs] at this;cases this
 ·intro k o ho hd m hm hdm
  have hr:=row k o ho
  unfold Zk at hr
  rw[if_pos hd,beq_iff_eq,Nat.and_comm] at hr
  cases hv:(Xr ops (yp pu ops) dp ops.size).testBit m with
  | true=>exact .inl rfl
  | false=>
   right
   have hb:((2 ^ ops.size - 1) ^^^ (dp ||| Xr ops (yp pu ops) dp ops.size)).testBit m=true:=by
    rw[Nat.testBit_xor,Nat.testBit_two_pow_sub_one,Nat.testBit_or,hdm,hv];simp[hm]
   exact edge _ _ (zFj hr hb)
 ·intro k hv
  obtain⟨_,hv⟩:=List.mem_filter.1 ((qZ _ _).1 hv)
  simp only[GY,Bool.and_eq_true,Bool.not_eq_true'] at hv
  exact⟨hv.1.1,zIl hv.1.2⟩
 ·intro k o hv ho j oj hj hne
  obtain⟨_,hv⟩:=List.mem_filter.1 ((qZ _ _).1 hv)
  simp only[GY,Bool.and_eq_true,Bool.not_eq_true'] at hv
  have h2:=hv.2
  rw[xy (pu:=pu) ho] at h2
  have h3:=zEg _ 0 h2 j _ (xy (pu:=pu) hj)
  rw[Nat.zero_add] at h3
  rcases h3 with h3 | h3 | h3 | h3
  ·exact absurd h3 hne
  ·exact .inl (edge _ _ h3)
  ·exact .inr (.inl (edge _ _ h3))
  ·exact .inr (.inr (zEZ h3))
/-- A region that draws,by its plan. -/
def yI (P:Program) (pu:Pu) (ops:Array Oper) (K:Fr→PL→Prop):zL→Fr→PL→Prop
 | .late J _ p1 p2,fr,PS=>hz P ops J∧zg P pu ops (uk P ops (zg P pu ops K p2) J) p1 fr PS
 | .done,fr,PS=>zg P pu ops K .done fr PS
 | .none,fr,PS=>zg P pu ops K .none fr PS
 | .one i p,fr,PS=>zg P pu ops K (.one i p) fr PS
 | .alt i cs p q,fr,PS=>zg P pu ops K (.alt i cs p q) fr PS
def Wq (ops:Array Oper) (tab:List Row):zL→Nat→Bool
 | .late J dp p1 p2,n=>WY ops tab J dp p1 p2 n
 | .done,n=>wQ tab .done [] n 0 none
 | .none,n=>wQ tab .none [] n 0 none
 | .one i p,n=>wQ tab (.one i p) [] n 0 none
 | .alt i cs p q,n=>wQ tab (.alt i cs p q) [] n 0 none
theorem zOi:jf ops (Array.replicate ops.size false) 0:=⟨by simp,fun j=>by simp[Array.getElem?_replicate];split<;>rfl⟩
theorem zCE (p:zL) (h:Wq ops (yp pu ops) p ops.size=true) (hp:yI P pu ops K p fr PS) (hst:St ds F e0 D0 w0 fr PS a w) (hQ:∀fr PS a w,K fr PS→St ds F e0 D0 w0 fr PS a w→Q .normal a w) (hQp:∀c a w,¬Q (.panic c) a w):
  wpAny P .any ops Q ops.size (Array.replicate ops.size false) a w:=by
 have main:wQ (yp pu ops) p [] ops.size 0 none=true→zg P pu ops K p fr PS→wpAny P .any ops Q ops.size (Array.replicate ops.size false) a w:=fun h hp=>
  zCo (pu:=pu) (chk:=gH P pu ops []) hQ _ _ fr PS a w ((Qd p [] ops.size _ 0 none fr PS h zOi hp zMk (by intro q hq;cases hq)).1 rfl) hst
 cases p with
 | late J dp p1 p2=>
  obtain⟨hok,hlt,hdp⟩:=zRm h
  simp only[Wq,WY,Bool.and_eq_true] at h
  obtain⟨⟨_,hp1⟩,hp2⟩:=h
  obtain⟨hzz,hp⟩:=hp
  have hsmall:∀j,ops.size≤j→dp.testBit j=false:=fun j hj=>Nat.testBit_lt_two_pow (Nat.lt_of_lt_of_le hdp (Nat.pow_le_pow_right (by omega) hj))
  let la:Array Bool:=(Array.range ops.size).map fun k=>decide (k∈J) || dp.testBit k
  have hla:∀j,j<ops.size→la.getD j false=(decide (j∈J) || dp.testBit j):=fun j hj=>by simp[la,hj]
  have hlas:la.size=ops.size:=by simp[la]
  have yZ:jf ops la (wG J ||| dp):=by
   refine⟨hlas,fun j=>?_⟩
   rw[Nat.testBit_or]
   have hm:(wG J).testBit j=decide (j∈J):=by rw[Bool.eq_iff_iff,qZ];simp
   rw[hm]
   rcases Nat.lt_or_ge j ops.size with hj | hj
   ·exact hla j hj
   ·have h1:¬j∈J:=fun hm=>by have:=hlt j hm;omega
    rw[hsmall j hj]
    simp[h1,la,Nat.not_lt.2 hj]
  have hdown:gg (fun k=>decide (k∈J) || dp.testBit k) ops la:=by
   refine⟨fun j hj=>?_,fun j o ho hX e he hb=>?_,fun j o ho hX hl e he hb=>?_⟩
   ·rcases Nat.lt_or_ge j ops.size with hj' | hj'
    ·rw[jd (by omega) true false,hla j hj'];exact hj
    ·simp[la,Nat.not_lt.2 hj']
   ·simp only[Bool.or_eq_false_iff,decide_eq_false_iff_not] at hX ⊢
    obtain⟨h1,_,h3⟩:=hok.maf j o ho hX.2 e he hb
    exact⟨h3,h1⟩
   ·have hj:=(Array.getElem?_eq_some_iff.1 ho).1
    rw[hla j hj] at hl
    simp only[hl] at hX;cases hX
  have H1:=(Qd p1 [] ops.size la _ none fr PS hp1 yZ hp hdown (by intro q hq;cases hq)).1 rfl
  refine zMv hok hzz hQp rfl ?_ ops.size ops.size (Array.replicate ops.size false) la (fun _=>none) fr PS a w (by simp) hlas (fun k hk _=>by simp[hk]) (fun k hk=>by rw[hla k hk];simp[hk]) ?_ (fun j hj d t hl hlj=>?_) (fun d p h=>(by cases h)) H1 (PSt.begin hst)
  ·intro n listed fr PS a w hsz hpt hn hk hs
   have hbits2:jf ops listed ((2 ^ ops.size - 1) ^^^ dp):=by
    refine⟨hsz,fun j=>?_⟩
    rw[Nat.testBit_xor,Nat.testBit_two_pow_sub_one]
    rcases Nat.lt_or_ge j ops.size with hj | hj
    ·rw[hpt j hj];simp[hj]
    ·rw[hsmall j hj]
     simp[Nat.not_lt.2 hj,hsz]
   have hdown2:gg (fun _=>false) ops listed:=by
    refine⟨fun j h=>(by cases h),fun _ _ _ _ _ _ _=>rfl,fun j o ho _ hl e he hb=>?_⟩
    have hj:=(Array.getElem?_eq_some_iff.1 ho).1
    rw[hpt j hj] at hl
    obtain⟨h1,h2,_⟩:=hok.maf j o ho (by simpa using hl) e he hb
    rw[hpt e.on (by omega),h1];rfl
   exact zCo (pu:=pu) (chk:=gH P pu ops []) hQ _ _ fr PS a w (zCQ _ _ _ _ _ hn ((Qd p2 [] _ listed _ none fr PS hp2 hbits2 hk hdown2 (by intro q hq;cases hq)).1 rfl)) hs
  ·unfold cnt
   exact Nat.le_trans (List.length_filter_le _ _) (by simp)
  ·have:=hlt j hj
   simp[this] at hlj
 | done=>exact main h hp
 | none=>exact main h hp
 | one i p=>exact main h hp
 | alt i cs p q=>exact main h hp
end
end Go.Eng
namespace Go.Eng
open Go
variable [zB]
section
variable {P:Program} {pu:Pu} {ops:Array Oper} {PS PS':PL} {fr fr':Fr} {o:Oper} {K:Fr→PL→Prop}
/-- The regions that draw,by plans:checked. -/
def gO (P:Program) (pu:Pu) (pl:Nat→zL):qY:=fun id ops K fr PS=>Wq ops (yp pu ops) (pl id) ops.size=true∧yI P pu ops K (pl id) fr PS
def yW (P:Program) (pu:Pu) (pl:Nat→zL):qY:=fun id ops K fr PS=>yI P pu ops K (pl id) fr PS
def yL (pu:Pu) (tb:Nat→List Row) (pl:Nat→zL):Code→Bool
 | .region id ops draw=>!draw || (Zl (yp pu ops) (tb id)&&Wq ops (tb id) (pl id) ops.size)
 | .seq x y=>yL pu tb pl x&&yL pu tb pl y
 | .cond _ x y=>yL pu tb pl x&&yL pu tb pl y
 | .block _ c=>yL pu tb pl c
 | .loop c=>yL pu tb pl c
 | .scope c=>yL pu tb pl c
 | _=>true
theorem zMb {hop:HOp} {tb:Nat→List Row} {pl:Nat→zL}:∀(c:Code),yL pu tb pl c=true→hvc hop (yW P pu pl) c=hvc hop (gO P pu pl) c:=by
 intro c
 induction c with
 | region id ops draw=>
  intro h
  funext Q fr PS
  cases draw with
  | false=>rfl
  | true=>
   simp only[yL,Bool.not_true,Bool.false_or,Bool.and_eq_true] at h
   have h':=h.2
   rw[←zAK _ _ h.1] at h'
   simp only[hvc,yW,gO,h',true_and,if_true]
 | seq x y ihx ihy=>
  intro h
  simp only[yL,Bool.and_eq_true] at h
  funext Q fr PS
  simp only[hvc,ihx h.1,ihy h.2]
 | cond c x y ihx ihy=>
  intro h
  simp only[yL,Bool.and_eq_true] at h
  funext Q fr PS
  simp only[hvc,ihx h.1,ihy h.2]
 | block id c ih=>intro h;funext Q fr PS;simp only[yL] at h;simp only[hvc,ih h]
 | loop c ih=>intro h;funext Q fr PS;simp only[yL] at h;simp only[hvc,ih h]
 | scope c ih=>intro h;funext Q fr PS;simp only[yL] at h;simp only[hvc,ih h]
 | _=>intro h;rfl
variable {ds:List Deferred} {F:Nat→Prop} {e0:List Pos} {D0:Nat→Nat→Prop} {w0:World}
theorem zDS {pl:Nat→zL} (hm:P.follows .mixedOrders=true):Ug P (gO P pu pl):=by
 intro id ops K fr PS ds F e0 D0 w0 a w h hst
 exact wp_region_any hm (zCE (pu:=pu) (pl id) h.1 h.2 (hst.drew rfl rfl rfl rfl) (fun fr PS a w hk hs=>⟨.normal,fr,PS,rfl,hk,hs⟩) fun c a w ⟨x',_,_,hx,_⟩=>by cases x'<;>cases hx)
/-- The contract of a function,out of its text:regions that draw by plans. -/
theorem zDc {f:FuncId} {fn:Func} {c:Code} {args:List HV} {K:HV→PL→Prop} (tb:Nat→List Row) (pl:Nat→zL) (pu:Pu) (hm:P.follows .mixedOrders=true) (hfn:P.funcs[f]? =some fn) (hb:fn.body=some c) (hp:yL pu tb pl c=true)
  (h:hvc (hop P) (yW P pu pl) c (je P fn.results.toList K) (vE fn.ntmps args) PS):zI P f args PS K:=
 zMP (zDS (pu:=pu) (pl:=pl) hm) hfn hb (zMb c hp▸h)
end
end Go.Eng
