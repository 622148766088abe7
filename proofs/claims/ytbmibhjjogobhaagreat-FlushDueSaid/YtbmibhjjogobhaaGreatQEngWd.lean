/-
A function whose text is a scope: a jump to a label on its spine, once, from which nothing jumps any more.
No conditions.
-/
import Derived.Test.YtbmibhjjogobhaaGreatQEngZ
import Derived.Scope
import Derived.RangeFuncLeaves
import Derived.RangeFuncRecord
import Derived.OrdersIn
import Derived.TacticsIn
set_option linter.unusedSectionVars false
set_option linter.unusedSimpArgs false
set_option linter.unusedVariables false
namespace Go.Eng
open Go
variable [zB]
section
variable {P:Program} {a:Act} {w:World} {Q:Exit→Act→World→Prop}
def Exit.once (P:Program) (c:Code) (Q:Exit→Act→World→Prop):Exit→Act→World→Prop
 | .goto l,a,w=>∃rest,findLabel c l=some rest∧rest.wp P (Go.Exit.noGoto Q) a w
 | e,a,w=>Q e a w
theorem zG8 {c:Code} (h:c.wp P (Exit.once P c Q) a w):(Code.scope c).wp P Q a w:=by
 intro b k cs
 obtain⟨e,a₁,w₁,hq,vK⟩:=h b (.inScope c::k) cs
 cases e with
 | normal=>exact⟨.normal,a₁,w₁,hq,.head step_scope (Steps.trans vK (.one step_inScope))⟩
 | exit id=>exact⟨.exit id,a₁,w₁,hq,fun k' hk=>.head step_scope (vK k' (by simp[exitTo,hk]))⟩
 | goto l=>
  obtain⟨rest,hf,hr⟩:=hq
  have hg:gotoIn l (.inScope c::k)=some (.code rest:: .inScope c::k):=by simp[gotoIn,hf]
  obtain⟨e₂,a₂,w₂,hq₂,harr₂⟩:=hr b (.inScope c::k) cs
  have go:=Steps.trans (Steps.one (step_scope (P:=P) (b:=b) (a:=a) (k:=k) (cs:=cs) (w:=w) (c:=c))) (vK _ hg)
  cases e₂ with
  | normal=>exact⟨.normal,a₂,w₂,hq₂,Steps.trans go (Steps.trans harr₂ (.one step_inScope))⟩
  | exit id=>exact⟨.exit id,a₂,w₂,hq₂,fun k' hk=>Steps.trans go (harr₂ k' (by simp[exitTo,hk]))⟩
  | goto l'=>exact hq₂.elim
  | ret=>exact⟨_,a₂,w₂,hq₂,.of_steps go harr₂⟩
  | panic ch=>exact⟨_,a₂,w₂,hq₂,.of_steps go harr₂⟩
  | outgrown=>exact⟨_,a₂,w₂,hq₂,.of_steps go harr₂⟩
 | ret=>exact⟨_,a₁,w₁,hq,.of_steps (.one step_scope) vK⟩
 | panic ch=>exact⟨_,a₁,w₁,hq,.of_steps (.one step_scope) vK⟩
 | outgrown=>exact⟨_,a₁,w₁,hq,.of_steps (.one step_scope) vK⟩
end
/-- As Q;by a jump:on from its label. -/
def HX.once (H:Code→(HX→Fr→PL→Prop)→Fr→PL→Prop) (c:Code) (Q:HX→Fr→PL→Prop):HX→Fr→PL→Prop
 | .goto l,fr,PS=>∃rest,findLabel c l=some rest∧H rest (HX.noGoto Q) fr PS
 | x,fr,PS=>Q x fr PS
/-- A function's text,jumps in it:a scope,what goes ahead of it. -/
def gE (hop:HOp) (hdraw:qY):Code→(HX→Fr→PL→Prop)→Fr→PL→Prop
 | .scope c,Q,fr,PS=>hvc hop hdraw c (HX.once (hvc hop hdraw) c Q) fr PS
 | .seq x y,Q,fr,PS=>hvc hop hdraw x (HX.then (fun fr PS=>gE hop hdraw y Q fr PS) Q) fr PS
 | c,Q,fr,PS=>hvc hop hdraw c Q fr PS
theorem zHx {P:Program} {hop:HOp} {hdraw:qY} {ds:List Deferred} {F:Nat→Prop} {e0:List Pos} {D0:Nat→Nat→Prop} {w0:World} (hs:gM P hop) (hd:XW P hdraw ds F e0 D0 w0):∀(c:Code) (Q:HX→Fr→PL→Prop) (fr:Fr) (PS:PL) (a:Act) (w:World),
  gE hop hdraw c Q fr PS→St ds F e0 D0 w0 fr PS a w→c.wp P (xb ds F e0 D0 w0 Q) a w:=by
 intro c
 induction c with
 | scope c _=>
  intro Q fr PS a w h hst
  refine zG8 (wp_mono (Yj hs hd c _ fr PS a w h hst) ?_)
  rintro x a w ⟨x',fr,PS,rfl,hq,hst⟩
  cases x' with
  | normal=>exact⟨.normal,fr,PS,rfl,hq,hst⟩
  | exit id=>exact⟨.exit id,fr,PS,rfl,hq,hst⟩
  | ret=>exact⟨.ret,fr,PS,rfl,hq,hst⟩
  | goto l=>
   obtain⟨rest,hf,hr⟩:=hq
   refine⟨rest,hf,wp_mono (Yj hs hd rest _ fr PS a w hr hst) ?_⟩
   rintro x a w ⟨x',fr,PS,rfl,hq,hst⟩
   cases x' with
   | normal=>exact⟨.normal,fr,PS,rfl,hq,hst⟩
   | exit id=>exact⟨.exit id,fr,PS,rfl,hq,hst⟩
   | ret=>exact⟨.ret,fr,PS,rfl,hq,hst⟩
   | goto l=>exact hq.elim
 | seq x y _ ihy=>
  intro Q fr PS a w h hst
  refine wp_seq (wp_mono (Yj hs hd x _ fr PS a w h hst) ?_)
  rintro e a w ⟨x',fr,PS,rfl,hq,hst⟩
  cases x' with
  | normal=>exact ihy _ _ _ _ _ hq hst
  | exit id=>exact⟨.exit id,fr,PS,rfl,hq,hst⟩
  | goto l=>exact⟨.goto l,fr,PS,rfl,hq,hst⟩
  | ret=>exact⟨.ret,fr,PS,rfl,hq,hst⟩
 | _=>intro Q fr PS a w h hst;exact Yj hs hd _ Q fr PS a w h hst
section
variable {P:Program} {pu:Pu} {tb:Nat→List Row} {pl:Nat→zL}
theorem zBx:∀(c:Code) (l:Nat) (rest:Code),yL pu tb pl c=true→findLabel c l=some rest→yL pu tb pl rest=true:=by
 intro c
 induction c with
 | seq x y ihx ihy=>
  intro l rest h hf
  simp only[yL,Bool.and_eq_true] at h
  simp only[findLabel] at hf
  split at hf
  ·rename_i r hr
   cases hf
   simp only[yL,Bool.and_eq_true]
   exact⟨ihx _ _ h.1 hr,h.2⟩
  ·exact ihy _ _ h.2 hf
 | label l'=>
  intro l rest h hf
  simp only[findLabel] at hf
  split at hf
  ·cases hf;rfl
  ·cases hf
 | _=>intro l rest h hf;simp[findLabel] at hf
/-- A state may be taken for another,within a function that began with so many pieces. -/
def SW (n0:Nat) (fr:Fr) (PS:PL) (fr':Fr) (PS':PL):Prop:=
 ∀ds F e0 D0 w0 (a:Act) (w:World),e0.length=n0→St ds F e0 D0 w0 fr PS a w→St ds F e0 D0 w0 fr' PS' a w
theorem SW.refl (n0:Nat) (fr:Fr) (PS:PL):SW n0 fr PS fr PS:=fun _ _ _ _ _ _ _ _ h=>h
/-- Behind a drawn region:the state,or one that it may be taken for. -/
def qi (n0:Nat) (hd:qY):qY:=fun id ops K=>hd id ops fun fr PS=>∃fr' PS',SW n0 fr PS fr' PS'∧K fr' PS'
theorem zRp {n0:Nat} {hd:qY} {ds:List Deferred} {F:Nat→Prop} {e0:List Pos} {D0:Nat→Nat→Prop} {w0:World} (h:XW P hd ds F e0 D0 w0) (hl:e0.length=n0):XW P (qi n0 hd) ds F e0 D0 w0:=by
 intro id ops K fr PS a w hw hst
 refine wp_mono (h id ops _ fr PS a w hw hst) ?_
 rintro x a w ⟨x',fr,PS,rfl,hq,hst⟩
 cases x' with
 | normal=>
  obtain⟨fr',PS',hs,hk⟩:=hq
  exact⟨.normal,fr',PS',rfl,hk,hs _ _ _ _ _ _ _ hl hst⟩
 | _=>exact hq.elim
theorem kX {hop:HOp} {n0:Nat}:∀(c:Code),yL pu tb pl c=true→hvc hop (qi n0 (yW P pu pl)) c=hvc hop (qi n0 (gO P pu pl)) c:=by
 intro c
 induction c with
 | region id ops draw=>
  intro h
  funext Q fr PS
  cases draw with
  | false=>rfl
  | true=>
   simp only[yL,Bool.not_true,Bool.false_or,Bool.and_eq_true] at h
   have h':=h.2
   rw[←zAK _ _ h.1] at h'
   simp only[hvc,qi,yW,gO,h',true_and,if_true]
 | seq x y ihx ihy=>
  intro h
  simp only[yL,Bool.and_eq_true] at h
  funext Q fr PS
  simp only[hvc,ihx h.1,ihy h.2]
 | cond c x y ihx ihy=>
  intro h
  simp only[yL,Bool.and_eq_true] at h
  funext Q fr PS
  simp only[hvc,ihx h.1,ihy h.2]
 | block id c ih=>intro h;funext Q fr PS;simp only[yL] at h;simp only[hvc,ih h]
 | loop c ih=>intro h;funext Q fr PS;simp only[yL] at h;simp only[hvc,ih h]
 | scope c ih=>intro h;funext Q fr PS;simp only[yL] at h;simp only[hvc,ih h]
 | _=>intro h;rfl
theorem zGu {hop:HOp} {n0:Nat}:∀(c:Code),yL pu tb pl c=true→gE hop (qi n0 (yW P pu pl)) c=gE hop (qi n0 (gO P pu pl)) c:=by
 intro c
 induction c with
 | scope c _=>
  intro hp
  have hp':yL pu tb pl c=true:=hp
  funext Q fr PS
  simp only[gE]
  have e:HX.once (hvc hop (qi n0 (yW P pu pl))) c Q=HX.once (hvc hop (qi n0 (gO P pu pl))) c Q:=by
   funext x fr PS
   cases x with
   | goto l=>
    simp only[HX.once]
    refine propext ⟨fun⟨rest,hf,h⟩=>⟨rest,hf,?_⟩,fun⟨rest,hf,h⟩=>⟨rest,hf,?_⟩⟩
    ·rw[←kX rest (zBx c l rest hp' hf)];exact h
    ·rw[kX rest (zBx c l rest hp' hf)];exact h
   | _=>rfl
  rw[e,kX c hp']
 | seq x y _ ihy=>
  intro hp
  simp only[yL,Bool.and_eq_true] at hp
  funext Q fr PS
  simp only[gE,kX x hp.1,ihy hp.2]
 | _=>
  intro hp
  funext Q fr PS
  show hvc _ _ _ Q fr PS=hvc _ _ _ Q fr PS
  rw[kX _ hp]
theorem zIi {hop:HOp} {n0:Nat} (c:Code) (hp:yL pu tb pl c=true) (Q:HX→Fr→PL→Prop) (fr:Fr) (PS:PL) (h:gE hop (qi n0 (yW P pu pl)) c Q fr PS):gE hop (qi n0 (gO P pu pl)) c Q fr PS:=by
 rw[←zGu c hp];exact h
end
end Go.Eng
namespace Go.Eng
open Go
variable [zB]
/-- A slice literal as a piece. -/
def zCD (PS:PL) (n:Nat) (parts:List (Nat×HV)) (K:HV→PL→Prop):Option (Nat×Nat×List HV)→Prop
 | some (s,_,z)=>n*s≤16777216∧n≤65536∧vV s (fun E=>K (.sl PS.length 0 0 n (some n)) (PS++[.arr 0 s E false])) (List.replicate n z) parts
 | none=>False
section
variable {P:Program} {ds:List Deferred} {F:Nat→Prop} {e e0:List Pos} {D D0:Nat→Nat→Prop} {PS PS':PL} {w w0 w':World} {fr:Fr} {a:Act} {o:Oper} {K:HV→PL→Prop} {Q:Exit→Act→World→Prop} {M:Nat→Prop}
theorem zQf {t:TypeId} {n:Nat} {parts:Array (Nat×Operand)} (ho:o.op=.buildSlice t n parts) (h:St ds F e0 D0 w0 fr PS a w)
  (hc:zCD PS n (parts.toList.map fun p=>(p.1,ev fr p.2)) K (yV P t)):
  o.wp P a w (fun a' w'=>∃v PS',K v PS'∧St ds F e0 D0 w0 (zV fr o.dst v) PS' a' w') Q:=by
 obtain⟨hd,e,D,hr,hf,ht⟩:=h
 cases hm:yV P t with
 | none=>rw[hm] at hc;exact hc.elim
 | some q=>
  obtain⟨s,b,z⟩:=q
  rw[hm] at hc
  obtain⟨el,i,zv,hu,hi,hz,hs,hb,hzs,hs0,rfl,h1⟩:=YN hm
  obtain⟨g1,g2,hc⟩:=hc
  have zz:=XS (M:=Mut F D) (e:=e) (w:=w) zv.cells hzs hs0 h1 n
  obtain⟨E,cs,qW,hE,hEl,hK⟩:=zFL (F:=F) (D:=D) (e:=e) (w:=w) (parts.toList.map fun p=>(p.1,ev fr p.2)) (parts.toList.map fun p=>(p.1,a.eval p.2)) _ _ zz (by simp) (by
   intro j p q hp hq
   rw[List.getElem?_map] at hp hq
   cases hx:parts.toList[j]? with
   | none=>rw[hx] at hp;cases hp
   | some y=>rw[hx] at hp hq;cases hp;cases hq;exact⟨rfl,zw hf y.2⟩) hc
  simp only[List.length_replicate] at hEl
  have hcs:(Instr.buildSlice t n (parts.map fun p=>(p.1,a.eval p.2))).run P w=.ok (.slice (some ⟨w.heap.size,0,none⟩) n n) (w.alloc (.cells cs el)):=by
   have hfill':Instr.fill (fun i=>some (i*s,s)) ((Array.range (n*s)).map (zv.cells[· % zv.cells.size]!)) (parts.map fun p=>(p.1,a.eval p.2)).toList=some cs:=by
    rw[Array.toList_map];exact qW
   have hsmall:¬16777216<n*s:=by omega
   by_cases hn:n*s=0
   ·have hn0:n=0:=by rcases Nat.mul_eq_zero.1 hn with h | h;exact h;omega
    subst hn0
    simp only[Nat.zero_mul] at hfill'
    have e0:((Array.range 0).map (zv.cells[· % zv.cells.size]!))=#[]:=by simp
    rw[e0] at hfill'
    simp only[Instr.buildSlice,Sem.run_bind,run_underlying hu,qC hi,Result.andThen_ok,hs,Nat.zero_mul,Nat.reducePow,gt_iff_lt,Nat.not_lt_zero,if_false,if_true,Sem.run_pure]
    have e1:Array.range 0=#[]:=rfl
    rw[e1,Array.map_empty,hfill']
    simp[newRow,newObj,Sem.run]
   ·have hzr:(zeroValue el).run P w=.ok zv w:=by simp[zeroValue,typeInfo,hi,hz]
    simp only[Instr.buildSlice,Sem.run_bind,run_underlying hu,qC hi,Result.andThen_ok,hs,Nat.reducePow,gt_iff_lt,hsmall,hn,if_false,Sem.run_pure,hzr,hfill']
    simp[newRow,newObj,Sem.run]
  have hadd:=hr.Yo (post:=[]) el n false hE (by omega) (by intro _;exact hEl) (by simp[maxLen];omega) (by rw[List.append_nil,hE.len,hEl];exact Nat.le_refl _)
  rw[List.append_nil,Array.toArray_toList] at hadd
  have hp:=zAO (e:=e) (w':=w.alloc (.cells cs el)) (M':=Mut F (we D PS.length w.heap.size)) (s:=s) (b:=w.heap.size) (len:=n) (cap:=n) (cp:=some n) (by omega) (by simp[maxLen];omega) rfl
  rw[hr.len] at hp
  exact uR hd hf ht (by simp[execOp,ho,hcs]) hadd (Tr.add _ _ _) hp hK
/-- Numbers known by name are appended to some:known by name. -/
def zBi (P:Program) (o:Oper) (fr:Fr) (PS:PL) (K:HV→PL→Prop):Prop:=
 ∃x y t t2 E i j b z,o.op=.call ⟨.builtin .append,⟨[x,y]⟩,⟨[t,t2]⟩⟩∧ev fr x=.imm true E∧ev fr y=.nam i∧zB.cat E i=some j∧yV P t=some (1,b,z)∧b≤8∧uG P t2∧(∀r∈E,r.length=1)∧K (.nam j) (PS++[.dead])
theorem zSC (h:St ds F e0 D0 w0 fr PS a w) (hc:zBi P o fr PS K):
  o.wp P a w (fun a' w'=>∃v PS',K v PS'∧St ds F e0 D0 w0 (zV fr o.dst v) PS' a' w') Q:=by
 obtain⟨x,y,t,t2,E,i,j,b,z,ho,hx,hy,hj,hm,hb,hn,hE,hK⟩:=hc
 obtain⟨hd,e,D,hr,hf,ht⟩:=h
 obtain⟨dst,op,ty,pos,after,guard⟩:=o
 simp only at ho
 subst ho
 obtain⟨c1,c2,c3,c4,c5⟩:=zB.cat_ok E i j hj
 have vy:=zw hf y
 rw[hy] at vy
 have vy:zH (Mut F D) e w (.imm (zB.dt i) (zB.rows i)) (a.eval y):=by cases vy;assumption
 have vx:=zw hf x
 rw[hx] at vx
 have hl:0<(zB.rows i).length:=List.length_pos_iff.2 c3
 rw[List.length_append] at c5
 obtain⟨z',r,PS',e',D',w',h1,h2,h3,h4,rfl,rfl⟩:=zBE (P:=P) (t:=t) (t2:=t2) (ty:=ty) (K:=fun z PS'=>z=.sl PS.length 0 0 (E.length+(zB.rows i).length) none∧PS'=PS++[.arr 0 1 (E++zB.rows i) true]) hr vx vy (by
  unfold gR
  rw[hm]
  exact⟨hn,c4,rfl,.inr hl,hE,⟨by omega,by have:(E.length+(zB.rows i).length)*b≤17592186044416*8:=Nat.mul_le_mul c5 hb;omega⟩,rfl,rfl⟩)
 obtain⟨D2,g1,g2,g3⟩:=h2.frz (zt _ _) wD.QO
 have hv:=g3 _ _ r (.sl 0 _ none (by rw[List.length_append];omega)) h4
 rw[List.drop_zero,List.take_of_length_le (by rw[List.length_append];exact Nat.le_refl _),←c2,←c1] at hv
 refine uR hd hf ht ?_ g1 (h3.trans g2) (.nam j r hv) hK
 have:∃consts,(execOp a.eval ⟨dst,.call ⟨.builtin .append,⟨[x,y]⟩,⟨[t,t2]⟩⟩,ty,pos,after,guard⟩)=builtin .append ⟨[t,t2]⟩ ty consts ([x,y].map a.eval).toArray:=
  ⟨_,by simp[execOp,resolve,invoke,bind,Sem.bind,pure];rfl⟩
 obtain⟨consts,this⟩:=this
 have h0:builtin .append ⟨[t,t2]⟩ ty consts ([x,y].map a.eval).toArray=(do pure (.value (←Builtin.append_ #[t,t2] ty #[a.eval x,a.eval y])):Sem Next):=rfl
 rw[this,h0,Sem.run_bind,h1]
 simp
/-- Nothing is appended. -/
def zET (P:Program) (o:Oper) (fr:Fr) (PS:PL) (K:HV→PL→Prop):Prop:=
 ∃x y t t2 E t1 t3,o.op=.call ⟨.builtin .append,⟨[x,y]⟩,⟨[t,t2]⟩⟩∧ev fr x=.imm t1 E∧ev fr y=.imm t3 []∧(yV P t).isSome∧uG P t2∧K (.imm t1 E) PS
theorem zL7 (h:St ds F e0 D0 w0 fr PS a w) (hc:zET P o fr PS K):
  o.wp P a w (fun a' w'=>∃v PS',K v PS'∧St ds F e0 D0 w0 (zV fr o.dst v) PS' a' w') Q:=by
 obtain⟨x,y,t,t2,E,t1,t3,ho,hx,hy,hm,hn,hK⟩:=hc
 obtain⟨hd,e,D,hr,hf,ht⟩:=h
 obtain⟨dst,op,ty,pos,after,guard⟩:=o
 simp only at ho
 subst ho
 have vy:=zw hf y
 rw[hy] at vy
 have vx:=zw hf x
 rw[hx] at vx
 obtain⟨⟨s,b,zl⟩,hm⟩:=Option.isSome_iff_exists.1 hm
 obtain⟨el,ti,zv,hu,hi,hz,rfl,rfl,hzs,hs0,rfl,h1z⟩:=YN hm
 obtain⟨N,vs,rfl,yA⟩:=Qn (P:=P) (s:=ti.size) (K:=fun N=>N=[]) hr vy (⟨by simp,rfl⟩:yA PS ti.size (.imm t3 []) fun N=>N=[])
 have hvs:vs=[]:=List.eq_nil_of_length_eq_zero (by simpa using yA.rows.len)
 subst hvs
 obtain⟨base,c,hu',hle⟩:∃base c,a.eval x=.slice base E.length c∧E.length≤c:=by
  generalize a.eval x=u at vx
  cases vx with
  | imm _ _ a c b o sz val hc=>exact⟨a,c,rfl,hc⟩
 have hrun:=xm (P:=P) (t2:=t2) (ty:=ty) hu hi hz (N:=[]) (vs:=[]) ⟨yA.rows,.inl ⟨hn,yA⟩⟩ (base:=base) (len:=E.length) (cap:=c) (by simpa using hle) (w':=w) (fun ad _=>jX _) (fun _=>rfl)
 simp only[List.length_nil,Nat.add_zero] at hrun
 rw[←hu'] at hrun
 refine uR hd hf ht ?_ hr (.refl e D w) vx hK
 have:∃consts,(execOp a.eval ⟨dst,.call ⟨.builtin .append,⟨[x,y]⟩,⟨[t,t2]⟩⟩,ty,pos,after,guard⟩)=builtin .append ⟨[t,t2]⟩ ty consts ([x,y].map a.eval).toArray:=
  ⟨_,by simp[execOp,resolve,invoke,bind,Sem.bind,pure];rfl⟩
 obtain⟨consts,this⟩:=this
 have h0:builtin .append ⟨[t,t2]⟩ ty consts ([x,y].map a.eval).toArray=(do pure (.value (←Builtin.append_ #[t,t2] ty #[a.eval x,a.eval y])):Sem Next):=rfl
 rw[this,h0,Sem.run_bind,hrun]
 simp
end
def jN (P:Program):HOp:=fun o fr PS K=>hop P o fr PS K∨(∃t n parts,o.op=.buildSlice t n parts∧zCD PS n (parts.toList.map fun p=>(p.1,ev fr p.2)) K (yV P t))∨zBi P o fr PS K∨zET P o fr PS K
theorem zGv {P:Program}:gM P (jN P):=by
 intro o fr PS K ds F e0 D0 w0 a w Q h hst
 rcases h with h | ⟨t,n,parts,ho,h⟩ | h | h
 ·exact UN o fr PS K ds F e0 D0 w0 a w Q h hst
 ·exact zQf ho hst h
 ·exact zSC hst h
 ·exact zL7 hst h
/-- The contract of a function,out of its text:drawn regions by plans,states taken for others behind them,slice literals as pieces where wanted. -/
theorem zQa {P:Program} {f:FuncId} {fn:Func} {c:Code} {args:List HV} {K:HV→PL→Prop} {PS:PL} (tb:Nat→List Row) (pl:Nat→zL) (pu:Pu) (hm:P.follows .mixedOrders=true) (hfn:P.funcs[f]? =some fn) (hb:fn.body=some c) (hp:yL pu tb pl c=true)
  (h:gE (jN P) (qi PS.length (yW P pu pl)) c (je P fn.results.toList K) (vE fn.ntmps args) PS):zI P f args PS K:=by
 intro F e D w vs hr hf
 refine calls_of_wp hfn hb (wp_mono (zHx zGv (zRp ((zDS (pu:=pu) (pl:=pl) hm).at [] F e D w) hr.len) c _ (vE fn.ntmps args) PS _ w (zIi c hp _ _ _ h) (F:=F) (e0:=e) (D0:=D) (w0:=w) ⟨rfl,e,D,hr,Gs _ hf,.refl e D w⟩) ?_)
 rintro x a w' ⟨x',fr,PS',rfl,hq,hd,e',D',hr',hf',ht'⟩
 cases x' with
 | normal=>
  obtain⟨v,y,h1,h2,h3⟩:=XZ hr' hf' hq
  exact⟨hd,v,h1,v,y,PS',e',D',rfl,h3,hr',ht',h2⟩
 | ret=>
  obtain⟨v,y,h1,h2,h3⟩:=XZ hr' hf' hq
  exact⟨hd,v,h1,v,y,PS',e',D',rfl,h3,hr',ht',h2⟩
 | exit id=>exact hq.elim
 | goto l=>exact hq.elim
end Go.Eng
namespace Go.Eng
open Go
variable [zB]
/-- A fence that lets all in:for a round of a loop,or for a plain frame. -/
def Gr (ro:Option Nat):Fence:={fn:=fun _=>True,depth:=none,alive:=false,round:=ro}
section
variable {P:Program} {ro:Option Nat} {n:Nat} {a:Act} {w:World} {Q:Exit→Act→World→Prop} {ops:Array Oper}
theorem Wr {p:Prop}:(Gr ro).depth.isSome=true→p:=fun h=>absurd h (by simp[Gr])
theorem zEn {f:FuncId} {args:Array Value} {R:Ending→World→Prop} (h:Calls P f args w R):CallsIn (Gr ro) n P f args w R:=(callsIn_wide (n:=n)).2 h
theorem zIY {f:FuncId} {args:Array Value} {R:Ending→World→Prop} (h:CallsIn (Gr none) n P f args w R):Calls P f args w R:=h.calls fun _ _ hd=>by cases hd
theorem zI3 {r:String} {args:Array Value} {R:Value→World→Prop} (h:Rows P r args w R):_root_.Go.RowsIn (Gr ro) n P r args w R:=
 fun c cs _=>let ⟨v,w',x,s⟩:=h c cs;⟨v,w',x,stepsIn_wide.2 s⟩
theorem zBW {o:Oper} {K:Act→World→Prop} (hd:∀c,o.op≠ .defer c) (h:o.wp P a w K Q):o.wpIn (Gr ro) 0 P a w K Q:=by
 refine⟨fun _ _=>trivial,?_⟩
 unfold Oper.wp at h
 rw[Oper.semAt_eq _ _ _ hd]
 generalize (execOp a.eval o).run P w=r at h ⊢
 cases r with
 | ok x w'=>
  cases x<;>first
   | exact h
   | exact⟨Wr,zEn h⟩
   | exact⟨Wr,zI3 h⟩
   | exact False.elim h
 | halt x w'=>cases x<;>first
  | exact h
  | exact False.elim h
def ZR:Oper→Bool
 | ⟨_,.defer _,_,_,_,_⟩=>false
 | _=>true
theorem zCn {o:Oper} (h:ZR o=true):∀c,o.op≠ .defer c:=by
 intro c hc
 obtain⟨dst,op,ty,pos,after,guard⟩:=o
 simp only at hc
 subst hc
 cases h
theorem Vg {md:Region.Mode} (hd:∀o∈ops.toList,ZR o=true) (hl:¬LetsOut Q):∀(k:Nat) (listed:Array Bool) (a:Act) (w:World),wpAny P md ops Q k listed a w→wpAnyIn (Gr ro) 0 P md ops Q k listed a w
 | 0,_,_,_,h=>h
 | k+1,listed,a,w,h=>by
  refine⟨h.1,fun i hi=>?_⟩
  have h2:=h.2 i hi
  unfold wpOp at h2
  unfold wpOpIn
  cases ho:ops[i]? with
  | none=>simp only[ho] at h2 ⊢;exact Vg hd hl k _ _ _ h2
  | some o=>
   simp only[ho] at h2 ⊢
   by_cases hw:Region.wanted o (yielded ops a.tmps)=true
   ·rw[if_pos hw] at h2 ⊢
    rcases h2 with h2 | ⟨_,h2⟩
    ·refine zBW (zCn (hd o ?_)) (Oper.wp_mono (fun a w h=>Vg hd hl k _ a w h) h2)
     exact Array.mem_toList_iff.2 (Array.mem_of_getElem? ho)
    ·exact absurd h2 hl
   ·rw[if_neg hw] at h2 ⊢
    exact⟨fun _ _=>trivial,Vg hd hl k _ _ _ h2⟩
end
theorem zNb {ds:List Deferred} {F:Nat→Prop} {e0:List Pos} {D0:Nat→Nat→Prop} {w0:World} {Q:HX→Fr→PL→Prop}:¬LetsOut (xb ds F e0 D0 w0 Q):=by
 rintro⟨a,w,x',_,_,h,_⟩
 cases x'<;>cases h
/-- An operation's abstract meaning holds of the model,in a frame of that kind. -/
def Zi (P:Program) (ro:Option Nat) (hop:HOp):Prop:=
 ∀(o:Oper) (fr:Fr) (PS:PL) (K:HV→PL→Prop) ds F e0 D0 w0 (a:Act) (w:World) (Q:Exit→Act→World→Prop),ZR o=true→hop o fr PS K→St ds F e0 D0 w0 fr PS a w→
  o.wpIn (Gr ro) 0 P a w (fun a' w'=>∃v PS',K v PS'∧St ds F e0 D0 w0 (zV fr o.dst v) PS' a' w') Q
theorem gM.in {P:Program} {hop:HOp} (h:gM P hop) (ro:Option Nat):Zi P ro hop:=
 fun o fr PS K ds F e0 D0 w0 a w Q hn hh hst=>zBW (zCn hn) (h o fr PS K ds F e0 D0 w0 a w Q hh hst)
def YK (P:Program) (ro:Option Nat) (hdraw:qY) (ds:List Deferred) (F:Nat→Prop) (e0:List Pos) (D0:Nat→Nat→Prop) (w0:World):Prop:=
 ∀(id:Nat) (ops:Array Oper) (K:Fr→PL→Prop) (fr:Fr) (PS:PL) (a:Act) (w:World),ops.toList.all ZR=true→hdraw id ops K fr PS→St ds F e0 D0 w0 fr PS a w→
  (Code.region id ops true).wpIn (Gr ro) 0 P (xb ds F e0 D0 w0 (HX.then K fun _ _ _=>False)) a w
theorem Kz {P:Program} {pu:Pu} {pl:Nat→zL} (hm:P.follows .mixedOrders=true) (ro:Option Nat) {ds:List Deferred} {F:Nat→Prop} {e0:List Pos} {D0:Nat→Nat→Prop} {w0:World}:YK P ro (gO P pu pl) ds F e0 D0 w0:=by
 intro id ops K fr PS a w hn h hst
 refine wpIn_region_any hm (Vg (fun o ho=>List.all_eq_true.1 hn o ho) zNb _ _ _ _ ?_)
 exact zCE (pu:=pu) (pl id) h.1 h.2 (hst.drew rfl rfl rfl rfl) (fun fr PS a w hk hs=>⟨.normal,fr,PS,rfl,hk,hs⟩) fun c a w ⟨x',_,_,hx,_⟩=>by cases x'<;>cases hx
theorem Kp {P:Program} {ro:Option Nat} {n0:Nat} {hd:qY} {ds:List Deferred} {F:Nat→Prop} {e0:List Pos} {D0:Nat→Nat→Prop} {w0:World} (h:YK P ro hd ds F e0 D0 w0) (hl:e0.length=n0):YK P ro (qi n0 hd) ds F e0 D0 w0:=by
 intro id ops K fr PS a w hn hw hst
 refine wpIn_mono (h id ops _ fr PS a w hn hw hst) ?_
 rintro x a w ⟨x',fr,PS,rfl,hq,hst⟩
 cases x' with
 | normal=>
  obtain⟨fr',PS',hs,hk⟩:=hq
  exact⟨.normal,fr',PS',rfl,hk,hs _ _ _ _ _ _ _ hl hst⟩
 | _=>exact hq.elim
/-- Code without deferred calls,scopes,loops over functions. -/
def wz:Code→Bool
 | .region _ ops _=>ops.toList.all ZR
 | .seq x y=>wz x&&wz y
 | .cond _ x y=>wz x&&wz y
 | .block _ c=>wz c
 | .loop c=>wz c
 | .rangeFunc _ _ _ _=>false
 | .scope _=>false
 | _=>true
section
variable {P:Program} {ro:Option Nat} {hop:HOp} {hdraw:qY} {ds:List Deferred} {F:Nat→Prop} {e0:List Pos} {D0:Nat→Nat→Prop} {w0:World}
theorem zRV (hs:Zi P ro hop) (ops:Array Oper) (K:Fr→PL→Prop) (Q:Exit→Act→World→Prop)
  (hK:∀fr PS a w,K fr PS→St ds F e0 D0 w0 fr PS a w→Q .normal a w):
  ∀(l:List Oper) (fr:Fr) (PS:PL) (a:Act) (w:World),l.all ZR=true→zf hop ops l K fr PS→St ds F e0 D0 w0 fr PS a w→wpListIn (Gr ro) 0 P ops Q l a w:=by
 intro l
 induction l with
 | nil=>intro fr PS a w _ h hst;exact hK _ _ _ _ h hst
 | cons o os ih=>
  intro fr PS a w hn h hst
  simp only[List.all_cons,Bool.and_eq_true] at hn
  have main:hop o fr PS (fun v PS'=>zf hop ops os K (zV fr o.dst v) PS')→o.wpIn (Gr ro) 0 P a w (wpListIn (Gr ro) 0 P ops Q os) Q:=fun h=>
   Oper.wpIn_mono (fun a w ⟨v,PS',h1,h2⟩=>ih _ _ _ _ hn.2 h1 h2) (hs o fr PS _ ds F e0 D0 w0 a w Q hn.1 h hst)
  simp only[zf] at h
  simp only[wpListIn]
  cases hg:o.guard with
  | none=>
   simp only[hg] at h
   simp only[Region.wanted,hg,if_true]
   exact main h
  | some g=>
   obtain⟨j,want⟩:=g
   simp only[hg] at h
   cases hv:qc ops fr j with
   | bool b=>
    rw[hv] at h
    have hy:=Ka hst hv
    simp only[Region.wanted,hg,hy]
    by_cases hb:b=want
    ·subst hb
     simp only[beq_self_eq_true,if_true]
     exact main (h.1 rfl)
    ·have:(some b == some want)=false:=by simpa using hb
     rw[this]
     simp only[Bool.false_eq_true,if_false]
     refine⟨fun _ _=>trivial,ih _ _ _ _ hn.2 (h.2 hb) ?_⟩
     obtain⟨hd,e,D,h1,h2,h3⟩:=hst
     refine⟨?_,e,D,h1,h2.put o.dst (.cst _),h3⟩
     cases o.dst<;>exact hd
   | cst v=>
    rw[hv] at h
    cases v with
    | tuple u=>
     have hy:=Qh hst hv
     have:(none == some want)=false:=rfl
     simp only[Region.wanted,hg,hy,this,Bool.false_eq_true,if_false]
     refine⟨fun _ _=>trivial,ih _ _ _ _ hn.2 h ?_⟩
     obtain⟨hd,e,D,h1,h2,h3⟩:=hst
     refine⟨?_,e,D,h1,h2.put o.dst (.cst _),h3⟩
     cases o.dst<;>exact hd
    | _=>exact h.elim
   | _=>rw[hv] at h;exact h.elim
theorem JY (hs:Zi P ro hop) (hd:YK P ro hdraw ds F e0 D0 w0):∀(c:Code) (Q:HX→Fr→PL→Prop) (fr:Fr) (PS:PL) (a:Act) (w:World),
  wz c=true→hvc hop hdraw c Q fr PS→St ds F e0 D0 w0 fr PS a w→c.wpIn (Gr ro) 0 P (xb ds F e0 D0 w0 Q) a w:=by
 intro c
 induction c with
 | skip=>intro Q fr PS a w _ h hst;exact wpIn_skip ⟨.normal,fr,PS,rfl,h,hst⟩
 | region id ops draw=>
  intro Q fr PS a w hn h hst
  simp only[hvc] at h
  cases draw with
  | true=>
   simp only[if_true] at h
   refine wpIn_mono (hd id ops _ fr PS a w hn h hst) ?_
   rintro x a w ⟨x',fr,PS,rfl,hq,hst⟩
   cases x' with
   | normal=>exact⟨.normal,fr,PS,rfl,hq,hst⟩
   | _=>exact hq.elim
  | false=>
   simp only[Bool.false_eq_true,if_false] at h
   exact wpIn_region_list (zRV hs ops _ _ (fun fr PS a w h hst=>⟨.normal,fr,PS,rfl,h,hst⟩) _ fr PS a w hn h hst)
 | seq x y ihx ihy=>
  intro Q fr PS a w hn h hst
  simp only[wz,Bool.and_eq_true] at hn
  refine wpIn_seq (wpIn_mono (ihx _ fr PS a w hn.1 h hst) ?_)
  rintro e a w ⟨x',fr,PS,rfl,hq,hst⟩
  cases x' with
  | normal=>exact ihy _ _ _ _ _ hn.2 hq hst
  | exit id=>exact⟨.exit id,fr,PS,rfl,hq,hst⟩
  | goto l=>exact⟨.goto l,fr,PS,rfl,hq,hst⟩
  | ret=>exact⟨.ret,fr,PS,rfl,hq,hst⟩
 | cond c x y ihx ihy=>
  intro Q fr PS a w hn h hst
  simp only[wz,Bool.and_eq_true] at hn
  simp only[hvc] at h
  have hst':=hst
  obtain⟨_,e,D,_,hf,_⟩:=hst'
  have hv:=zw hf c
  generalize ev fr c=u at h hv
  cases u with
  | bool b=>
   generalize hu:a.eval c=v at hv
   cases hv
   refine wpIn_cond_split hu (fun hb=>ihx _ _ _ _ _ hn.1 (h.1 hb) hst) (fun hb=>ihy _ _ _ _ _ hn.2 (h.2 hb) hst)
  | anyb=>
   generalize hu:a.eval c=v at hv
   cases hv
   exact wpIn_cond_split hu (fun _=>ihx _ _ _ _ _ hn.1 h.1 hst) (fun _=>ihy _ _ _ _ _ hn.2 h.2 hst)
  | _=>exact h.elim
 | block id c ih=>
  intro Q fr PS a w hn h hst
  refine wpIn_block (wpIn_mono (ih _ fr PS a w hn h hst) ?_)
  rintro e a w ⟨x',fr,PS,rfl,hq,hst⟩
  cases x' with
  | normal=>exact⟨.normal,fr,PS,rfl,hq,hst⟩
  | exit id'=>
   simp only[HX.ZO,Exit.inBlock]
   simp only[HX.inBlock] at hq
   split
   ·rename_i hi;rw[if_pos hi] at hq;exact⟨.normal,fr,PS,rfl,hq,hst⟩
   ·rename_i hi;rw[if_neg hi] at hq;exact⟨.exit id',fr,PS,rfl,hq,hst⟩
  | goto l=>exact⟨.goto l,fr,PS,rfl,hq,hst⟩
  | ret=>exact⟨.ret,fr,PS,rfl,hq,hst⟩
 | loop c ih=>
  intro Q fr PS a w hn h hst
  simp only[hvc] at h
  obtain⟨I,⟨n,fr',PS',hw,hi⟩,hr⟩:=h
  classical
  let IW:Nat→Act→World→Prop:=fun m a w=>∃fr PS,I m fr PS∧St ds F e0 D0 w0 fr PS a w
  have hex:∃m,IW m a w∧∀k,IW k a w→m≤k:=Xn _ n ⟨fr',PS',hi,hst.kK hw⟩
  refine wpIn_loop (fun a w=>∃m,IW m a w∧∀k,IW k a w→m≤k) (fun a w=>if h:∃m,IW m a w∧∀k,IW k a w→m≤k then Classical.choose h else 0) hex ?_
  intro a w hI
  have hm:=(Classical.choose_spec hI).1
  obtain⟨fr,PS,hi,hst⟩:=hm
  refine wpIn_mono (ih _ fr PS a w hn (hr _ fr PS hi) hst) ?_
  rintro e a' w' ⟨x',fr',PS',rfl,hq,hst'⟩
  cases x' with
  | normal=>
   obtain⟨m,fr2,PS2,hlt,hw2,hi2⟩:=hq
   have hIW:IW m a' w':=⟨fr2,PS2,hi2,hst'.kK hw2⟩
   have hex':∃m,IW m a' w'∧∀k,IW k a' w'→m≤k:=Xn _ m hIW
   refine⟨hex',?_⟩
   simp only[dif_pos hex',dif_pos hI]
   exact Nat.lt_of_le_of_lt ((Classical.choose_spec hex').2 m hIW) hlt
  | exit id=>exact⟨.exit id,fr',PS',rfl,hq,hst'⟩
  | goto l=>exact⟨.goto l,fr',PS',rfl,hq,hst'⟩
  | ret=>exact⟨.ret,fr',PS',rfl,hq,hst'⟩
 | rangeFunc f ps x y _ _=>intro Q fr PS a w hn;cases hn
 | exit id=>intro Q fr PS a w _ h hst;exact wpIn_exit ⟨.exit id,fr,PS,rfl,h,hst⟩
 | scope c ih=>intro Q fr PS a w hn;cases hn
 | label l=>intro Q fr PS a w _ h hst;exact wpIn_label ⟨.normal,fr,PS,rfl,h,hst⟩
 | goto l=>intro Q fr PS a w _ h hst;exact wpIn_goto ⟨.goto l,fr,PS,rfl,h,hst⟩
 | ret=>intro Q fr PS a w _ h hst;exact wpIn_ret ⟨.ret,fr,PS,rfl,h,hst⟩
 | refuse s=>intro Q fr PS a w _ h hst;exact h.elim
end
end Go.Eng
namespace Go.Eng
open Go
variable [zB]
section
variable {P:Program} {F:Nat→Prop} {e e0:List Pos} {D D0:Nat→Nat→Prop} {PS PS':PL} {w w0 w':World} {fr:Fr} {a:Act} {M:Nat→Prop}
theorem Rel.Un (h:Rel F e D PS w) {n ver:Nat} {st:LoopState} {pd:Option Code} {lf:Fr} {ps:List Tmp} {c1 c2:Code} {gl:Nat} (hq:zA PS n=.rnd ver st pd lf ps c1 c2 gl):
  ∃p l r,PS[n]? =some (.rnd ver st pd lf ps c1 c2 gl)∧e[n]? =some p∧p.ver=ver∧p.kind=.root (.func (.yield l) #[] #[])∧(∀x,D n x↔x=l)∧w.heap[l]? =some (.loop r)∧r.state=st∧r.pending=pd∧
   r.params=ps.toArray∧r.assign=c1∧r.body=c2∧zy (Mut F D) e w lf r.tmps:=by
 obtain⟨p,h1,h2,h3⟩:=h.root hq (by simp)
 unfold yK at h3
 cases hk:p.kind with
 | root v=>
  simp only[hk] at h3
  obtain⟨hv,l,rfl,hD,r,g1,g2,g3,g4,g5,g6,g7,g8⟩:=h3
  exact⟨p,l,r,h1,h2,hv.symm,hk,hD,g1,g2,g3,g4,g5,g6,g7,g8⟩
 | arr b o sz' cap=>simp only[hk] at h3
 | nil=>simp only[hk] at h3
 | dead=>simp only[hk] at h3
/-- The record changes its state. -/
theorem Rel.zAQ (h:Rel F e D PS w) {n ver l:Nat} {st st':LoopState} {pd pd':Option Code} {lf:Fr} {ps:List Tmp} {c1 c2:Code} {gl:Nat} {p:Pos} {r:Loop} (hn:PS[n]? =some (.rnd ver st pd lf ps c1 c2 gl)) (hp:e[n]? =some p)
  (hpv:p.ver=ver) (hk:p.kind=.root (.func (.yield l) #[] #[])) (hD:∀x,D n x↔x=l) (hl:w.heap[l]? =some (.loop r)) (g4:r.params=ps.toArray) (g5:r.assign=c1) (g6:r.body=c2) (g7:zy (Mut F D) e w lf r.tmps):
  Rel F e D (PS.set n (.rnd ver st' pd' lf ps c1 c2 gl)) (w.putObj l (.loop {r with state:=st',pending:=pd'}))∧Tr e D w e D (w.putObj l (.loop {r with state:=st',pending:=pd'})):=by
 have ht:Tr e D w e D (wP w l (.loop {r with state:=st',pending:=pd'})):=Tr.put ((hD l).2 rfl)
 refine⟨h.putObj hn hp hD ?_,ht⟩
 unfold yK
 simp only[hk]
 refine⟨hpv.symm,l,rfl,hD,{r with state:=st',pending:=pd'},?_,rfl,rfl,g4,g5,g6,?_⟩
 ·have:l<w.heap.size:=(Array.getElem?_eq_some_iff.1 hl).1
  simp[wP,this]
 ·exact g7.mono ht.stays ht.env
theorem Rel.zR7 (h:Rel F e D PS w) (ob:Obj):Rel (fun b=>F b∨b=w.heap.size) e D PS (w.alloc ob)∧vo (Mut F D) w (Mut (fun b=>F b∨b=w.heap.size) D) (w.alloc ob)∧Tr e D w e D (w.alloc ob):=by
 have hs:vo (Mut F D) w (Mut (fun b=>F b∨b=w.heap.size) D) (w.alloc ob):=⟨by simp,fun b hb _=>RowKit.Below.heap_alloc w _ b hb,fun b hb hm=>by
  rcases hm with (hm | hm) | hm
  ·exact .inl hm
  ·omega
  ·exact .inr hm⟩
 refine⟨⟨h.len,fun i b hb=>?_,fun b hb=>?_,h.apart,fun i q p hq hp=>?_⟩,hs,⟨rfl,rfl,rfl,by simp,fun b hb _=>RowKit.Below.heap_alloc w _ b hb,fun i b hb=>.inl ⟨i,hb⟩,.refl e⟩⟩
 ·obtain⟨h1,h2,h3⟩:=h.out i b hb
  refine⟨h1,by simp;omega,?_⟩
  rintro (hf | hf)
  ·exact h3 hf
  ·omega
 ·rcases hb with hb | hb
  ·have:=h.fore b hb;simp;omega
  ·simp;omega
 ·exact(h.holds i q p hq hp).mono hs (.refl e) (fun _=>Iff.rfl) (fun b hb=>RowKit.Below.heap_alloc w _ b (h.out i b hb).2.1) (fun b hb=>(h.out i b hb).2.1) (fun b hb=>.inr ⟨i,hb⟩)
/-- A piece is let go. -/
theorem Rel.kill (h:Rel F e D PS w) {n b:Nat} (ob:Obj) (hD:∀x,D n x↔x=b) (hn:n<PS.length):
  Rel F e (fun i x=>D i x∧i≠n) (PS.set n .dead) (w.putObj b ob)∧Tr e D w e (fun i x=>D i x∧i≠n) (w.putObj b ob):=by
 have ht:Tr e D w e (fun i x=>D i x∧i≠n) (w.putObj b ob):=⟨rfl,rfl,rfl,by simp,fun x _ hx=>World.putObj_heap_other (fun hh=>hx n ((hD x).2 hh)),fun i x hx=>.inl ⟨i,hx.1⟩,.refl e⟩
 refine⟨h.next ht (by simp[h.len]) (fun i x hx=>?_) (fun i j x hi hj=>h.apart i j x hi.1 hj.1) (fun i q p hq hp=>?_),ht⟩
 ·have:=h.out i x hx.1
  exact⟨by simpa using this.1,by simpa using this.2.1,this.2.2⟩
 ·by_cases hi:n=i
  ·subst hi
   right
   simp[hn] at hq
   subst hq
   intro x hx
   exact hx.2 rfl
  ·left
   rw[List.getElem?_set_ne hi] at hq
   refine⟨hq,hp,fun x=>⟨fun hx=>hx.1,fun hx=>⟨hx,Ne.symm hi⟩⟩,fun x hx=>World.putObj_heap_other (fun hh=>hi ?_)⟩
   exact h.apart n i x ((hD x).2 hh) hx
/-- A block that was foreign,and is any no more. -/
theorem Rel.loose {d:Nat} (h:Rel (fun b=>F b∨b=d) e D PS w) (ob:Obj):
  Rel F e D PS (w.putObj d ob)∧vo (Mut (fun b=>F b∨b=d) D) w (Mut F D) (w.putObj d ob):=by
 have hs:vo (Mut (fun b=>F b∨b=d) D) w (Mut F D) (w.putObj d ob):=⟨by simp,fun b _ hm=>World.putObj_heap_other (fun hh=>hm (.inl (.inr hh))),fun b _ hm=>by
  rcases hm with hm | hm
  ·exact .inl (.inl hm)
  ·exact .inr hm⟩
 have hne:∀i b,D i b→b≠d:=fun i b hb hh=>(h.out i b hb).2.2 (.inr hh)
 refine⟨⟨h.len,fun i b hb=>?_,fun b hb=>?_,h.apart,fun i q p hq hp=>?_⟩,hs⟩
 ·obtain⟨h1,h2,h3⟩:=h.out i b hb
  exact⟨h1,by simpa using h2,fun hf=>h3 (.inl hf)⟩
 ·have:=h.fore b (.inl hb);simpa using this
 ·exact(h.holds i q p hq hp).mono hs (.refl e) (fun _=>Iff.rfl) (fun b hb=>World.putObj_heap_other (hne i b hb)) (fun b hb=>(h.out i b hb).2.1) (fun b hb=>.inr ⟨i,hb⟩)
end
/-- The arguments of yield,in the loop's variables. -/
def ju (ps:List Tmp) (xs:List HV) (fr:Fr):Fr:=(ps.zip xs).foldl (fun fr p=>fr.set p.1 p.2) fr
theorem zy.zR5 {M:Nat→Prop} {e:List Pos} {w:World} {fr:Fr} {t:Array Value} (h:zy M e w fr t) (i:Nat) {x:HV} {u:Value} (hx:zH M e w x u):zy M e w (fr.set i x) (t.setIfInBounds i u):=by
 refine⟨by simp[h.1],fun j y v hy hv=>?_⟩
 rw[List.getElem?_set] at hy
 rw[Array.getElem?_setIfInBounds] at hv
 split at hy
 ·rename_i hij
  rw[if_pos hij] at hv
  split at hy
  ·cases hy
   split at hv
   ·cases hv;exact hx
   ·cases hv
  ·cases hy
 ·rename_i hij
  rw[if_neg hij] at hv
  exact h.2 j y v hy hv
theorem zDp {M:Nat→Prop} {e:List Pos} {w:World}:∀(ps:List Tmp) (xs:List HV) (us:List Value) (fr:Fr) (t:Array Value),xs.length=us.length→(∀(i:Nat) (x:HV) (u:Value),xs[i]? =some x→us[i]? =some u→zH M e w x u)→zy M e w fr t→
  zy M e w (ju ps xs fr) ((ps.zip us).foldl (fun t p=>t.setIfInBounds p.1 p.2) t)
 | [],_,_,_,_,_,_,h=>by simpa [ju] using h
 | _::_,[],[],_,_,_,_,h=>by simpa [ju] using h
 | p::ps,x::xs,u::us,fr,t,hl,hx,h=>by
  have:=zDp ps xs us (fr.set p x) (t.setIfInBounds p u) (by simpa using hl) (fun i y v hy hv=>hx (i+1) y v (by simpa using hy) (by simpa using hv)) (h.zR5 p (hx 0 x u rfl rfl))
  simpa [ju] using this
 | _::_,[],_::_,_,_,hl,_,_=>by simp at hl
 | _::_,_::_,[],_,_,hl,_,_=>by simp at hl
/-- How a round's end leaves the record. -/
def ji:HX→Option Code
 | .normal=>none
 | .ret=>some .ret
 | .exit id=>some (.exit id)
 | .goto t=>some (.goto t)
def Gh (j:Option Code):LoopState:=if j.isNone then .ready else .done
/-- A round's end. -/
def ui (n ver:Nat) (K:HV→PL→Prop) (x:HX) (PS:PL):zC→Prop
 | .rnd ver' .busy none lf ps c1 c2 gl=>ver=ver'∧K (.bool (ji x).isNone) (PS.set n (.rnd ver (Gh (ji x)) (ji x) lf ps c1 c2 gl))
 | _=>False
/-- A round's body. -/
def jc (ver n:Nat) (B:PL→Prop) (PS:PL):zC→Prop
 | .rnd ver' .ready none lf ps c1 c2 gl=>ver=ver'∧B (PS.set n (.rnd ver .busy none lf ps c1 c2 gl))
 | _=>False
/-- A round:the assignments,the body. -/
def zOT (P:Program) (pu:Pu) (hop:HOp) (n ver:Nat) (lf:Fr) (ps:List Tmp) (c1 c2:Code) (xs:List HV) (PS:PL) (K:HV→PL→Prop):Prop:=
 xs.length=ps.length∧wz c1=true∧wz c2=true∧∃tb pl,yL pu tb pl c1=true∧yL pu tb pl c2=true∧
  hvc hop (qi PS.length (yW P pu pl)) c1 (HX.then (fun fr1 PS1=>jc ver n (fun PSb=>
   hvc hop (qi PS1.length (yW P pu pl)) c2 (fun x _ PS2=>ui n ver K x PS2 (zA PS2 n)) fr1 PSb) PS1 (zA PS1 n)) (fun _ _ _=>False))
   (ju ps xs lf) PS
/-- A call of yield. -/
def kj (P:Program) (pu:Pu) (hop:HOp) (n ver:Nat) (xs:List HV) (PS:PL) (K:HV→PL→Prop):zC→Prop
 | .rnd ver' .ready none lf ps c1 c2 _=>ver=ver'∧zOT P pu hop n ver lf ps c1 c2 xs PS K
 | _=>False
def xU (P:Program) (pu:Pu) (hop:HOp) (xs:List HV) (PS:PL) (K:HV→PL→Prop) (A:Prop):HV→Prop
 | .ref n ver=>kj P pu hop n ver xs PS K (zA PS n)
 | _=>A
/-- The operations,calls of yield among them. -/
def wO (P:Program) (pu:Pu) (hop:HOp):HOp:=fun o fr PS K=>
 match o.op with
 | .call ⟨.value f,args,_⟩=>xU P pu hop (args.toList.map (ev fr)) PS K (hop o fr PS K) (ev fr f)
 | _=>hop o fr PS K
section
variable {P:Program} {pu:Pu} {hop:HOp} {ro:Option Nat}
theorem zJc (hm:P.follows .mixedOrders=true) (hs:gM P hop) {o:Oper} {f:Operand} {args:Array Operand} {ts:Array TypeId} {ver n:Nat} {fr:Fr} {PS:PL} {K:HV→PL→Prop} {ds:List Deferred} {F:Nat→Prop} {e0:List Pos} {D0:Nat→Nat→Prop} {w0 w:World} {a:Act} {Q:Exit→Act→World→Prop}
  (ho:o.op=.call ⟨.value f,args,ts⟩) (hev:ev fr f=.ref n ver) (h:St ds F e0 D0 w0 fr PS a w) (hc:kj P pu hop n ver (args.toList.map (ev fr)) PS K (zA PS n)):
  o.wpIn (Gr ro) 0 P a w (fun a' w'=>∃v PS',K v PS'∧St ds F e0 D0 w0 (zV fr o.dst v) PS' a' w') Q:=by
 obtain⟨hd,e,D,hr,hf,ht⟩:=h
 cases hq:zA PS n with
 | rnd ver' st pd lf ps c1 c2 gl=>
  rw[hq] at hc
  cases st<;>first | exact hc.elim | skip
  cases pd<;>first | exact hc.elim | skip
  obtain⟨rfl,hlen,hp1,hp2,tb,pl,ho1,ho2,hc⟩:=hc
  obtain⟨p,l,r,hn,hp,hpv,hk,hD,hl,g2,g3,g4,g5,g6,g7⟩:=hr.Un hq
  have hfe:a.eval f=.func (.yield l) #[] #[]:=by
   have:=zw hf f
   rw[hev] at this
   exact gh this hp hpv hk
  have hsz:(args.map a.eval).size=r.params.size:=by rw[g4];simpa using hlen
  have hrun:(execOp a.eval o).run P w=.ok (.round l r.fn ((r.params.zip (args.map a.eval)).foldl (fun tmps (t,a)=>tmps.setIfInBounds t a) r.tmps) r.assign r.body) w:=by
   have hy:=run_yield (P:=P) hl hsz
   obtain⟨dst,op,ty,pos,after,guard⟩:=o
   simp only at ho
   subst ho
   simp[execOp,resolve,hfe,Deferred.ofValue,invoke,hy]
  refine⟨fun _ _=>trivial,?_⟩
  rw[Oper.semAt_eq _ _ _ (by rw[ho];intro c hh;cases hh),hrun,Oper.uponIn_round]
  refine⟨Wr,roundIn_of_wpIn trivial ?_⟩
  have hfr:zy (Mut F D) e w (ju ps (args.toList.map (ev fr)) lf) ((r.params.zip (args.map a.eval)).foldl (fun tmps (t,a)=>tmps.setIfInBounds t a) r.tmps):=by
   have ha:=ZE hf args
   have:=zDp ps (args.toList.map (ev fr)) (args.map a.eval).toList lf r.tmps (by simp) (fun i x u hx hu=>ha.2 i x u hx (by simpa using hu)) g7
   rw[g4,←Array.foldl_toList,Array.toList_zip]
   exact this
  rw[g5,g6]
  rw[kX c1 ho1] at hc
  refine wpIn_mono (JY (F:=F) (e0:=e) (D0:=D) (w0:=w) (ds:=[]) (hs.in (some l)) (Kp (Kz hm (some l)) hr.len) c1 _ _ PS ⟨_,[]⟩ w hp1 hc ⟨rfl,e,D,hr,hfr,.refl e D w⟩) ?_
  rintro x a1 w1 ⟨x',fr1,PS1,rfl,hq1,hd1,e1,D1,hr1,hf1,ht1⟩
  cases x' with
  | normal=>
   obtain⟨lf1,ps1,a1',b1',gl1,hq1,hb⟩:∃lf1 ps1 a1' b1' gl1,zA PS1 n=.rnd ver .ready none lf1 ps1 a1' b1' gl1∧hvc hop (qi PS1.length (yW P pu pl)) c2 (fun x _ PS2=>ui n ver K x PS2 (zA PS2 n)) fr1 (PS1.set n (.rnd ver .busy none lf1 ps1 a1' b1' gl1)):=by
    have hq1:jc ver n _ PS1 (zA PS1 n):=hq1
    unfold jc at hq1
    split at hq1
    ·rename_i h0;obtain⟨rfl,hb⟩:=hq1;exact⟨_,_,_,_,_,h0,hb⟩
    ·exact hq1.elim
   obtain⟨p1,l1,r1,hn1,hp1',hpv1,hk1,hD1,hl1,k2,k3,k4,k5,k6,k7⟩:=hr1.Un hq1
   obtain rfl:l1=l:=by
    obtain⟨p2,hp2',hor⟩:=ht1.env n p hp
    rw[hp1'] at hp2';cases hp2'
    rcases hor with rfl | hlt
    ·rw[hk] at hk1;injection hk1 with hk1;injection hk1 with hk1;injection hk1 with hk1;exact hk1.symm
    ·omega
   obtain⟨hr2,ht2⟩:=hr1.zAQ (st':=.busy) (pd':=none) hn1 hp1' hpv1 hk1 hD1 hl1 k4 k5 k6 k7
   have e2:({r1 with state:=.busy,pending:=none}:Loop)={r1 with state:=.busy}:=by rw[←k3]
   rw[e2] at hr2 ht2
   refine⟨_,run_beginRound hl1 k2,?_⟩
   rw[kX c2 ho2] at hb
   refine wpIn_mono (JY (F:=F) (e0:=e1) (D0:=D1) (w0:=w1.putObj l1 (.loop {r1 with state:=.busy})) (ds:=[]) (hs.in (some l1)) (Kp (Kz hm (some l1)) hr1.len) c2 _ _ _ a1 _ hp2 hb ⟨hd1,e1,D1,hr2,hf1.mono ht2.stays ht2.env,.refl _ _ _⟩) ?_
   rintro x a2 w2 ⟨x',fr2,PS2,rfl,hq2,hd2,e2',D2,hr3,hf3,ht3⟩
   obtain⟨lf2,ps2,a2',b2',gl2,hq2,hK⟩:∃lf2 ps2 a2' b2' gl2,zA PS2 n=.rnd ver .busy none lf2 ps2 a2' b2' gl2∧K (.bool (ji x').isNone) (PS2.set n (.rnd ver (Gh (ji x')) (ji x') lf2 ps2 a2' b2' gl2)):=by
    have hq2:ui n ver K x' PS2 (zA PS2 n):=hq2
    unfold ui at hq2
    split at hq2
    ·rename_i h0;obtain⟨rfl,hb⟩:=hq2;exact⟨_,_,_,_,_,h0,hb⟩
    ·exact hq2.elim
   obtain⟨p3,l3,r3,hn3,hp3,hpv3,hk3,hD3,hl3,j2,j3,j4,j5,j6,j7⟩:=hr3.Un hq2
   obtain rfl:l3=l1:=by
    obtain⟨p2,hp2',hor⟩:=ht3.env n p1 hp1'
    rw[hp3] at hp2';cases hp2'
    rcases hor with rfl | hlt
    ·rw[hk1] at hk3;injection hk3 with hk3;injection hk3 with hk3;injection hk3 with hk3;exact hk3.symm
    ·omega
   obtain⟨hr4,ht4⟩:=hr3.zAQ (st':=Gh (ji x')) (pd':=ji x') hn3 hp3 hpv3 hk3 hD3 hl3 j4 j5 j6 j7
   have hend:=run_endRound (P:=P) (ji x') hl3
   have htt:=((ht1.trans ht2).trans ht3).trans ht4
   have fin:∃v w',(Instr.endRound l3 (ji x')).run P w2=.ok v w'∧(∃v' PS',K v' PS'∧St ds F e0 D0 w0 (zV fr o.dst v') PS' (a.put o.dst v) w'):=by
    refine⟨_,_,hend,.bool (ji x').isNone,_,hK,?_,e2',D2,hr4,hf.Xe htt (.bool _),ht.trans htt⟩
    cases o.dst<;>exact hd
   cases x' with
   | normal=>exact fin
   | exit id=>exact fin
   | goto t=>exact fin
   | ret=>exact fin
  | exit id=>exact hq1.elim
  | goto t=>exact hq1.elim
  | ret=>exact hq1.elim
 | _=>rw[hq] at hc;exact hc.elim
theorem zOH (hm:P.follows .mixedOrders=true) (hs:gM P hop) (ro:Option Nat):Zi P ro (wO P pu hop):=by
 intro o fr PS K ds F e0 D0 w0 a w Q hn h hst
 unfold wO at h
 split at h
 ·rename_i f args ts ho
  unfold xU at h
  split at h
  ·rename_i n ver hev
   exact zJc hm hs ho hev hst h
  ·exact(hs.in ro) o fr PS K ds F e0 D0 w0 a w Q hn h hst
 ·exact(hs.in ro) o fr PS K ds F e0 D0 w0 a w Q hn h hst
end
/-- Behind a loop over a function. -/
def gG (n:Nat) (fr:Fr) (Q:HX→Fr→PL→Prop) (PS:PL):zC→Prop
 | .rnd ver .ready none _ _ _ _ _=>ver=0∧Q .normal fr (PS.set n .dead)
 | .rnd ver .done (some .ret) _ _ _ _ _=>ver=0∧Q .ret fr (PS.set n .dead)
 | .rnd ver .done (some (.exit id)) _ _ _ _ _=>ver=0∧Q (.exit id) fr (PS.set n .dead)
 | _=>False
def hrf (P:Program) (gl:Nat) (fr:Fr) (PS:PL) (ps:Array Tmp) (c1 c2:Code) (Q:HX→Fr→PL→Prop):Option (FuncId×List HV×List HV)→Prop
 | some (g,f,c)=>zQ P g=true∧zI P g (f++([.ref PS.length 0]++c)) (PS++[.rnd 0 .ready none fr ps.toList c1 c2 gl]) fun _ PS'=>gG PS.length fr Q PS' (zA PS' PS.length)
 | none=>False
/-- A function's text,loops over functions in it. -/
def vd (P:Program) (gl:Nat) (hop:HOp) (hdraw:qY):Code→(HX→Fr→PL→Prop)→Fr→PL→Prop
 | .rangeFunc f ps c1 c2,Q,fr,PS=>hrf P gl fr PS ps c1 c2 Q (wu (ev fr f))
 | .seq x y,Q,fr,PS=>vd P gl hop hdraw x (HX.then (fun fr PS=>vd P gl hop hdraw y Q fr PS) Q) fr PS
 | .cond c x y,Q,fr,PS=>wU (vd P gl hop hdraw x Q fr PS) (vd P gl hop hdraw y Q fr PS) (ev fr c)
 | .block id c,Q,fr,PS=>vd P gl hop hdraw c (HX.inBlock id Q) fr PS
 | c,Q,fr,PS=>hvc hop (qi PS.length hdraw) c Q fr PS
def jS:Code→Bool
 | .rangeFunc _ _ _ _=>true
 | .seq x y=>jS x&&jS y
 | .cond _ x y=>jS x&&jS y
 | .block _ c=>jS c
 | c=>wz c
def mark (d:Nat):Deferred:={target:=.collected d,args:=#[]}
/-- The state,blocks for deferred calls laid by. -/
def StD (F:Nat→Prop) (e0:List Pos) (D0:Nat→Nat→Prop) (w0:World) (fr:Fr) (PS:PL) (a:Act) (w:World):Prop:=
 ∃(l:List Nat) (e:List Pos) (D:Nat→Nat→Prop),a.defers=l.map mark∧l.Nodup∧(∀d∈l,w.heap[d]? =some (.deferred (some []))∧¬F d∧w0.heap.size≤d)∧
  Rel (fun b=>F b∨b∈l) e D PS w∧zy (Mut (fun b=>F b∨b∈l) D) e w fr a.tmps∧Tr e0 D0 w0 e D w
def Gu (F:Nat→Prop) (e0:List Pos) (D0:Nat→Nat→Prop) (w0:World) (Q:HX→Fr→PL→Prop) (x:Exit) (a:Act) (w:World):Prop:=
 ∃x' fr PS,x=x'.ZO∧Q x' fr PS∧StD F e0 D0 w0 fr PS a w
section
variable {P:Program} {gl:Nat} {pu:Pu} {hop:HOp} {hdraw:qY} {F:Nat→Prop} {e0:List Pos} {D0:Nat→Nat→Prop} {w0:World}
theorem zGQ (hs:Zi P none hop) (hd:∀ds F e0 D0 w0,YK P none hdraw ds F e0 D0 w0) (c:Code) (Q:HX→Fr→PL→Prop) (fr:Fr) (PS:PL) (a:Act) (w:World)
  (hp:wz c=true) (h:hvc hop (qi PS.length hdraw) c Q fr PS) (hst:StD F e0 D0 w0 fr PS a w):c.wpIn (Gr none) 0 P (Gu F e0 D0 w0 Q) a w:=by
 obtain⟨l,e,D,h1,h2,h3,hr,hf,ht⟩:=hst
 refine wpIn_mono (JY (F:=fun b=>F b∨b∈l) (e0:=e) (D0:=D) (w0:=w) (ds:=l.map mark) hs (Kp (hd _ _ _ _ _) hr.len) c Q fr PS a w hp h ⟨h1,e,D,hr,hf,.refl e D w⟩) ?_
 rintro x a' w' ⟨x',fr',PS',rfl,hq,hd',e',D',hr',hf',ht'⟩
 refine⟨x',fr',PS',rfl,hq,l,e',D',hd',h2,fun d hdl=>?_,hr',hf',ht.trans ht'⟩
 obtain⟨g1,g2,g3⟩:=h3 d hdl
 refine⟨(ht'.keep d (hr.fore d (.inr hdl)) fun i hi=>(hr.out i d hi).2.2 (.inr hdl)).trans g1,g2,g3⟩
theorem zR1 (hs:Zi P none hop) (hd:∀ds F e0 D0 w0,YK P none hdraw ds F e0 D0 w0):∀(c:Code) (Q:HX→Fr→PL→Prop) (fr:Fr) (PS:PL) (a:Act) (w:World),
  jS c=true→vd P gl hop hdraw c Q fr PS→StD F e0 D0 w0 fr PS a w→c.wpIn (Gr none) 0 P (Gu F e0 D0 w0 Q) a w:=by
 intro c
 induction c with
 | seq x y ihx ihy=>
  intro Q fr PS a w hn h hst
  simp only[jS,Bool.and_eq_true] at hn
  refine wpIn_seq (wpIn_mono (ihx _ fr PS a w hn.1 h hst) ?_)
  rintro e a w ⟨x',fr,PS,rfl,hq,hst⟩
  cases x' with
  | normal=>exact ihy _ _ _ _ _ hn.2 hq hst
  | exit id=>exact⟨.exit id,fr,PS,rfl,hq,hst⟩
  | goto l=>exact⟨.goto l,fr,PS,rfl,hq,hst⟩
  | ret=>exact⟨.ret,fr,PS,rfl,hq,hst⟩
 | cond c x y ihx ihy=>
  intro Q fr PS a w hn h hst
  simp only[jS,Bool.and_eq_true] at hn
  simp only[vd] at h
  have hst':=hst
  obtain⟨l,e,D,_,_,_,_,hf,_⟩:=hst'
  have hv:=zw hf c
  generalize ev fr c=u at h hv
  cases u with
  | bool b=>
   generalize hu:a.eval c=v at hv
   cases hv
   refine wpIn_cond_split hu (fun hb=>ihx _ _ _ _ _ hn.1 (h.1 hb) hst) (fun hb=>ihy _ _ _ _ _ hn.2 (h.2 hb) hst)
  | anyb=>
   generalize hu:a.eval c=v at hv
   cases hv
   exact wpIn_cond_split hu (fun _=>ihx _ _ _ _ _ hn.1 h.1 hst) (fun _=>ihy _ _ _ _ _ hn.2 h.2 hst)
  | _=>exact h.elim
 | block id c ih=>
  intro Q fr PS a w hn h hst
  refine wpIn_block (wpIn_mono (ih _ fr PS a w hn h hst) ?_)
  rintro e a w ⟨x',fr,PS,rfl,hq,hst⟩
  cases x' with
  | normal=>exact⟨.normal,fr,PS,rfl,hq,hst⟩
  | exit id'=>
   simp only[HX.ZO,Exit.inBlock]
   simp only[HX.inBlock] at hq
   split
   ·rename_i hi;rw[if_pos hi] at hq;exact⟨.normal,fr,PS,rfl,hq,hst⟩
   ·rename_i hi;rw[if_neg hi] at hq;exact⟨.exit id',fr,PS,rfl,hq,hst⟩
  | goto l=>exact⟨.goto l,fr,PS,rfl,hq,hst⟩
  | ret=>exact⟨.ret,fr,PS,rfl,hq,hst⟩
 | rangeFunc f ps c1 c2 _ _=>
  intro Q fr PS a w _ h hst
  obtain⟨l,e,D,h1,h2,h3,hr,hf,ht⟩:=hst
  simp only[vd] at h
  cases hfn:wu (ev fr f) with
  | none=>rw[hfn] at h;exact h.elim
  | some q=>
   obtain⟨g,f1,k1⟩:=q
   rw[hfn] at h
   obtain⟨hcl,hcall⟩:=h
   obtain⟨fs,cs,hfe,hfs,hcs⟩:=zAh (zw hf f) hfn
   refine wpIn_rangeFunc fun fn _=>?_
   obtain⟨hrA,hsA,htA⟩:=hr.zR7 (.deferred (some []))
   have hrA':Rel (fun b=>F b∨b∈w.heap.size::l) e D PS (w.alloc (.deferred (some [])))∧Mut (fun b=>(F b∨b∈l)∨b=w.heap.size) D=Mut (fun b=>F b∨b∈w.heap.size::l) D:=by
    have:(fun b=>(F b∨b∈l)∨b=w.heap.size)=(fun b=>F b∨b∈w.heap.size::l):=by
     funext b
     simp only[List.mem_cons]
     exact propext ⟨fun h=>by rcases h with (h | h) | h;exact .inl h;exact .inr (.inr h);exact .inr (.inl h),fun h=>by rcases h with h | h | h;exact .inl (.inl h);exact .inr h;exact .inl (.inr h)⟩
    rw[this] at hrA
    exact⟨hrA,by rw[this]⟩
   rw[hrA'.2] at hsA
   have hrA:=hrA'.1
   have hfA:=hf.mono hsA (.refl e)
   obtain⟨rec,hrec⟩:∃rec:Loop,rec={state:=.ready,pending:=none,fn,tmps:=a.tmps,params:=ps,assign:=c1,body:=c2,defers:=w.heap.size}:=⟨_,rfl⟩
   have htB:Tr e D (w.alloc (.deferred (some []))) (e++[⟨0,.root (.func (.yield (w.heap.size+1)) #[] #[])⟩]) (we D PS.length (w.heap.size+1)) ((w.alloc (.deferred (some []))).alloc (.loop rec)):=by
    have:=Tr.add (e:=e) (D:=D) (w:=w.alloc (.deferred (some []))) (.loop rec) PS.length ⟨0,.root (.func (.yield (w.heap.size+1)) #[] #[])⟩
    rwa [World.size_alloc] at this
   have hrB:Rel (fun b=>F b∨b∈w.heap.size::l) (e++[⟨0,.root (.func (.yield (w.heap.size+1)) #[] #[])⟩]) (we D PS.length (w.heap.size+1)) (PS++[.rnd 0 .ready none fr ps.toList c1 c2 gl]) ((w.alloc (.deferred (some []))).alloc (.loop rec)):=by
    have:=hrA.Kr (.loop rec) (.rnd 0 .ready none fr ps.toList c1 c2 gl) (.func (.yield (w.heap.size+1)) #[] #[]) (fun Dn hDn=>by
     rw[World.size_alloc] at hDn ⊢
     refine⟨rfl,w.heap.size+1,rfl,hDn,rec,?_,by rw[hrec],by rw[hrec],by rw[hrec],by rw[hrec],by rw[hrec],?_⟩
     ·have:=World.alloc_heap_new (w.alloc (.deferred (some []))) (.loop rec)
      rwa [World.size_alloc] at this
     ·have h9:=hfA.mono htB.stays htB.env
      have e9:rec.tmps=a.tmps:=by rw[hrec]
      rw[e9]
      exact h9)
    rwa [World.size_alloc] at this
   have hdB:∀d∈w.heap.size::l,((w.alloc (.deferred (some []))).alloc (.loop rec)).heap[d]? =some (.deferred (some []))∧¬F d∧w0.heap.size≤d:=by
    intro d hd
    rcases List.mem_cons.1 hd with rfl | hd
    ·refine⟨(RowKit.Below.heap_alloc _ _ _ (by simp)).trans (World.alloc_heap_new w _),fun hf=>Nat.lt_irrefl _ (hr.fore _ (.inl hf)),ht.size⟩
    ·obtain⟨g1,g2,g3⟩:=h3 d hd
     have hlt:=hr.fore d (.inr hd)
     exact⟨(RowKit.Below.heap_alloc _ _ _ (by simp;omega)).trans ((RowKit.Below.heap_alloc _ _ _ hlt).trans g1),g2,g3⟩
   have hsB:=htB.stays (F:=fun b=>F b∨b∈w.heap.size::l)
   have hargs:zy (Mut (fun b=>F b∨b∈w.heap.size::l) (we D PS.length (w.heap.size+1))) (e++[⟨0,.root (.func (.yield (w.heap.size+1)) #[] #[])⟩]) ((w.alloc (.deferred (some []))).alloc (.loop rec)) (f1++([.ref PS.length 0]++k1)) (fs++(#[.func (.yield (w.heap.size+1)) #[] #[]]++cs)):=by
    refine((hfs.mono hsA (.refl e)).mono hsB htB.env).append (zy.append ⟨rfl,fun i x u hx hu=>?_⟩ ((hcs.mono hsA (.refl e)).mono hsB htB.env))
    rcases i with _ | i
    ·simp at hx hu
     subst hx;subst hu
     exact .ref _ 0 _ ⟨0,.root _⟩ (by simp[←hr.len]) (Nat.le_refl _) (fun _=>rfl) rfl
    ·simp at hx
   refine⟨w.heap.size+1,[mark w.heap.size],(w.alloc (.deferred (some []))).alloc (.loop rec),{target:=.fn (.func g) cs,args:=fs++#[.func (.yield (w.heap.size+1)) #[] #[]]},(w.alloc (.deferred (some []))).alloc (.loop rec),g,fs++(#[.func (.yield (w.heap.size+1)) #[] #[]]++cs),(w.alloc (.deferred (some []))).alloc (.loop rec),?_,?_,fun _ _=>trivial,?_,Wr,?_⟩
   ·rw[hrec];exact run_enterLoop_outer _ _ _ _ _
   ·have e9:a.eval (.const (.func (.yield (w.heap.size+1)) #[] #[]))=.func (.yield (w.heap.size+1)) #[] #[]:=rfl
    simp[resolve,hfe,Deferred.ofValue,e9]
   ·simp[invoke,zAF hcl,Array.append_assoc]
   ·refine(zEn (hcall _ _ _ _ _ hrB hargs)).mono ?_
    rintro en w3 ⟨v,x,PS',e',D',rfl,hK,hr',ht',hv⟩
    have hq:∃st pd c1' c2' lf' ps' gl',zA PS' PS.length=.rnd 0 st pd lf' ps' c1' c2' gl'∧((st=.ready∧pd=none∧Q .normal fr (PS'.set PS.length .dead))∨(∃jx,st=.done∧pd=some .ret∧jx=HX.ret∧Q jx fr (PS'.set PS.length .dead))∨∃id,st=.done∧pd=some (.exit id)∧Q (.exit id) fr (PS'.set PS.length .dead)):=by
     unfold gG at hK
     split at hK
     ·rename_i hq;obtain⟨rfl,hK⟩:=hK;exact⟨_,_,_,_,_,_,_,hq,.inl ⟨rfl,rfl,hK⟩⟩
     ·rename_i hq;obtain⟨rfl,hK⟩:=hK;exact⟨_,_,_,_,_,_,_,hq,.inr (.inl ⟨_,rfl,rfl,rfl,hK⟩)⟩
     ·rename_i hq;obtain⟨rfl,hK⟩:=hK;exact⟨_,_,_,_,_,_,_,hq,.inr (.inr ⟨_,rfl,rfl,hK⟩)⟩
     ·exact hK.elim
    obtain⟨st,pd,c1',c2',lf',ps',gl',hq,hcase⟩:=hq
    obtain⟨p1,l1,r1,hn1,hp1,hpv1,hk1,hD1,hl1,k2,k3,k4,k5,k6,k7⟩:=hr'.Un hq
    obtain rfl:l1=w.heap.size+1:=by
     obtain⟨p2,hp2,hor⟩:=ht'.env PS.length ⟨0,.root (.func (.yield (w.heap.size+1)) #[] #[])⟩ (by simp[←hr.len])
     rw[hp1] at hp2;cases hp2
     rcases hor with rfl | hlt
     ·injection hk1 with hk1;injection hk1 with hk1;injection hk1 with hk1;exact hk1.symm
     ·simp at hlt;omega
    have hst:r1.state≠ .busy:=by
     rw[k2]
     rcases hcase with ⟨rfl,_⟩ | ⟨_,rfl,_⟩ | ⟨_,rfl,_⟩<;>simp
    have hend:=run_endLoop (P:=P) hl1 hst
    have hlen':PS.length<PS'.length:=(List.getElem?_eq_some_iff.1 hn1).1
    obtain⟨hrK,htK⟩:=hr'.kill (.loop {r1 with state:=.exhausted}) hD1 hlen'
    have htt:=(htB.trans ht').trans htK
    have hnew:∀(j:HX),Q j fr (PS'.set PS.length .dead)→Gu F e0 D0 w0 Q j.ZO {a with defers:=[mark w.heap.size]++a.defers} (w3.putObj (w.heap.size+1) (.loop {r1 with state:=.exhausted})):=by
     intro j hj
     refine⟨j,fr,_,rfl,hj,w.heap.size::l,e',_,by rw[h1];rfl,List.nodup_cons.2 ⟨fun hm=>Nat.lt_irrefl _ (hr.fore _ (.inr hm)),h2⟩,fun d hd=>?_,hrK,hfA.mono htt.stays htt.env,ht.trans (htA.trans htt)⟩
     obtain⟨g1,g2,g3⟩:=hdB d hd
     refine⟨?_,g2,g3⟩
     have hnd:∀i,¬we D PS.length (w.heap.size+1) i d:=fun i hi=>(hrB.out i d hi).2.2 (.inr hd)
     have hne:d≠w.heap.size+1:=fun hh=>hnd PS.length (.inr ⟨rfl,hh⟩)
     exact(World.putObj_heap_other hne).trans ((ht'.keep d (hrB.fore d (.inr hd)) hnd).trans g1)
    rcases hcase with ⟨rfl,rfl,hQ⟩ | ⟨jx,rfl,rfl,rfl,hQ⟩ | ⟨id,rfl,rfl,hQ⟩
    ·exact⟨none,_,by rw[←k3];exact hend,hnew .normal hQ⟩
    ·exact⟨some .ret,_,by rw[←k3];exact hend,wpIn_ret (hnew .ret hQ)⟩
    ·exact⟨some (.exit id),_,by rw[←k3];exact hend,wpIn_exit (hnew (.exit id) hQ)⟩
 | _=>intro Q fr PS a w hn h hst;exact zGQ hs hd _ Q fr PS a w hn h hst
theorem zJq {tb:Nat→List Row} {pl:Nat→zL}:∀(c:Code),yL pu tb pl c=true→vd P gl hop (yW P pu pl) c=vd P gl hop (gO P pu pl) c:=by
 intro c
 induction c with
 | seq x y ihx ihy=>
  intro h
  simp only[yL,Bool.and_eq_true] at h
  funext Q fr PS
  simp only[vd,ihx h.1,ihy h.2]
 | cond c x y ihx ihy=>
  intro h
  simp only[yL,Bool.and_eq_true] at h
  funext Q fr PS
  simp only[vd,ihx h.1,ihy h.2]
 | block id c ih=>intro h;funext Q fr PS;simp only[yL] at h;simp only[vd,ih h]
 | rangeFunc f ps x y _ _=>intro h;rfl
 | _=>
  intro h
  funext Q fr PS
  show hvc _ _ _ Q fr PS=hvc _ _ _ Q fr PS
  rw[kX _ h]
/-- At a function's end the blocks for deferred calls are taken. -/
theorem zB6 {fn:Func} {tmps:Array Value} {R:Ending→World→Prop}:∀(l:List Nat) (w:World) (e:List Pos) (D:Nat→Nat→Prop) (PS:PL) (fr:Fr),l.Nodup→(∀d∈l,w.heap[d]? =some (.deferred (some []))∧¬F d∧w0.heap.size≤d)→
  Rel (fun b=>F b∨b∈l) e D PS w→zy (Mut (fun b=>F b∨b∈l) D) e w fr tmps→Tr e0 D0 w0 e D w→
  (∀w',Rel F e D PS w'→zy (Mut F D) e w' fr tmps→Tr e0 D0 w0 e D w'→∃v,(results fn tmps).run P w'=.ok v w'∧R (.returned v) w')→
  LeavesInM (Gr none) 0 P fn tmps R (l.map mark) .returning w
 | [],w,e,D,PS,fr,_,_,hr,hf,ht,hR=>by
  have:(fun b=>F b∨b∈([]:List Nat))=F:=by funext b;simp
  rw[this] at hr hf
  exact hR w hr hf ht
 | d::l,w,e,D,PS,fr,hnd,hd,hr,hf,ht,hR=>by
  obtain⟨g1,g2,g3⟩:=hd d (by simp)
  obtain⟨hdl,hnl⟩:=List.nodup_cons.1 hnd
  have hF:(fun b=>F b∨b∈d::l)=(fun b=>(F b∨b∈l)∨b=d):=by
   funext b
   simp only[List.mem_cons]
   exact propext ⟨fun h=>by rcases h with h | h | h;exact .inl (.inl h);exact .inr h;exact .inl (.inr h),fun h=>by rcases h with (h | h) | h;exact .inl h;exact .inr (.inr h);exact .inr (.inl h)⟩
  rw[hF] at hr hf
  have hDn:∀i,¬D i d:=fun i hi=>(hr.out i d hi).2.2 (.inr rfl)
  have hnF:¬(F d∨d∈l):=by rintro (h | h);exact g2 h;exact hdl h
  obtain⟨hr2,hs2⟩:=hr.loose (.deferred none)
  refine⟨by simp,.inl ⟨d,_,rfl,run_takeDeferred g1,?_⟩⟩
  refine zB6 l _ e D PS fr hnl (fun x hx=>?_) hr2 (hf.mono hs2 (.refl e)) ⟨ht.os,ht.tape,ht.output,by simpa using ht.size,fun b hb hb2=>?_,fun i b hb=>ht.own i b hb,ht.env⟩ hR
  ·obtain⟨k1,k2,k3⟩:=hd x (by simp[hx])
   exact⟨(World.putObj_heap_other (fun hh:x=d=>hdl (by rw[←hh];exact hx))).trans k1,k2,k3⟩
  ·exact(World.putObj_heap_other (by omega)).trans (ht.keep b hb hb2)
/-- The contract of a function,out of its text:loops over functions,calls of yield. -/
theorem zPK {f:FuncId} {fn:Func} {c:Code} {args:List HV} {K:HV→PL→Prop} {PS:PL} (hb2:gM P hop) (tb:Nat→List Row) (pl:Nat→zL) (pu:Pu) (hm:P.follows .mixedOrders=true) (hfn:P.funcs[f]? =some fn) (hb:fn.body=some c) (hn:jS c=true) (hp:yL pu tb pl c=true)
  (h:vd P gl (wO P pu hop) (yW P pu pl) c (je P fn.results.toList K) (vE fn.ntmps args) PS):zI P f args PS K:=by
 intro F e D w vs hr hf
 refine zIY (n:=0) (callsIn_of_wp_marks hfn hb trivial (wpIn_mono (zR1 (F:=F) (e0:=e) (D0:=D) (w0:=w) (zOH hm hb2 none) (fun _ _ _ _ _=>Kz (pu:=pu) (pl:=pl) hm none) c _ (vE fn.ntmps args) PS _ w hn (zJq c hp▸h) ⟨[],e,D,rfl,List.nodup_nil,by simp,?_,?_,.refl e D w⟩) ?_))
 ·have:(fun b=>F b∨b∈([]:List Nat))=F:=by funext b;simp
  rw[this];exact hr
 ·have:(fun b=>F b∨b∈([]:List Nat))=F:=by funext b;simp
  rw[this];exact Gs _ hf
 ·rintro x a w' ⟨x',fr,PS',rfl,hq,l,e',D',hd,h2,h3,hr',hf',ht'⟩
  have fin:wK P fr PS' (jg fun x=>K x PS') fn.results.toList→LeavesInM (Gr none) 0 P fn a.tmps (fun en w'=>∃v x PS' e' D',en=.returned v∧K x PS'∧Rel F e' D' PS' w'∧Tr e D w e' D' w'∧zH (Mut F D') e' w' x v) a.defers .returning w':=by
   intro hq
   rw[hd]
   refine zB6 l w' e' D' PS' fr h2 h3 hr' hf' ht' fun w2 hr2 hf2 ht2=>?_
   obtain⟨v,y,h1,h2,h3⟩:=XZ hr2 hf2 hq
   exact⟨v,h1,v,y,PS',e',D',rfl,h3,hr2,ht2,h2⟩
  cases x' with
  | normal=>exact fin hq
  | ret=>exact fin hq
  | exit id=>exact hq.elim
  | goto l=>exact hq.elim
end
end Go.Eng
