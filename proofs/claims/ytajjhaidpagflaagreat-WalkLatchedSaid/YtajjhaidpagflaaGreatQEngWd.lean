/-
A function whose text is a scope: a jump to a label on its spine, once, from which nothing jumps any more.
Slice literals as pieces of memory: the operations, and these besides.
Loops over functions: the code within a round and within functions that call yield, in the fenced calculus; no program in sight.
Loops over functions: the loop's record, a call of yield, the statement, a function's contract.
No conditions.
-/
import Derived.Test.YtajjhaidpagflaaGreatQEngZ
import Derived.Scope
import Derived.RangeFuncLeaves
import Derived.RangeFuncRecord
import Derived.OrdersIn
import Derived.TacticsIn
set_option linter.unusedSectionVars false
set_option linter.unusedSimpArgs false
set_option linter.unusedVariables false
namespace Go.Eng
open Go
variable [Toks]
section
variable {P:Program} {a:Act} {w:World} {Q:Exit→Act→World→Prop}
def Exit.once (P:Program) (c:Code) (Q:Exit→Act→World→Prop):Exit→Act→World→Prop
  | .goto l,a,w=>∃rest,findLabel c l=some rest∧rest.wp P (Go.Exit.noGoto Q) a w
  | e,a,w=>Q e a w
theorem wp_scope_once {c:Code} (h:c.wp P (Exit.once P c Q) a w):(Code.scope c).wp P Q a w:=by
  intro b k cs
  obtain⟨e,a₁,w₁,hq,harr⟩:=h b (.inScope c::k) cs
  cases e with
  | normal=>exact⟨.normal,a₁,w₁,hq,.head step_scope (Steps.trans harr (.one step_inScope))⟩
  | exit id=>exact⟨.exit id,a₁,w₁,hq,fun k' hk=>.head step_scope (harr k' (by simp[exitTo,hk]))⟩
  | goto l=>
    obtain⟨rest,hf,hr⟩:=hq
    have hg:gotoIn l (.inScope c::k)=some (.code rest:: .inScope c::k):=by simp[gotoIn,hf]
    obtain⟨e₂,a₂,w₂,hq₂,harr₂⟩:=hr b (.inScope c::k) cs
    have go:=Steps.trans (Steps.one (step_scope (P:=P) (b:=b) (a:=a) (k:=k) (cs:=cs) (w:=w) (c:=c))) (harr _ hg)
    cases e₂ with
    | normal=>exact⟨.normal,a₂,w₂,hq₂,Steps.trans go (Steps.trans harr₂ (.one step_inScope))⟩
    | exit id=>exact⟨.exit id,a₂,w₂,hq₂,fun k' hk=>Steps.trans go (harr₂ k' (by simp[exitTo,hk]))⟩
    | goto l'=>exact hq₂.elim
    | ret=>exact⟨_,a₂,w₂,hq₂,.of_steps go harr₂⟩
    | panic ch=>exact⟨_,a₂,w₂,hq₂,.of_steps go harr₂⟩
    | outgrown=>exact⟨_,a₂,w₂,hq₂,.of_steps go harr₂⟩
  | ret=>exact⟨_,a₁,w₁,hq,.of_steps (.one step_scope) harr⟩
  | panic ch=>exact⟨_,a₁,w₁,hq,.of_steps (.one step_scope) harr⟩
  | outgrown=>exact⟨_,a₁,w₁,hq,.of_steps (.one step_scope) harr⟩
end
/-- As Q;by a jump:on from its label. -/
def HX.once (H:Code→(HX→Fr→PL→Prop)→Fr→PL→Prop) (c:Code) (Q:HX→Fr→PL→Prop):HX→Fr→PL→Prop
  | .goto l,fr,PS=>∃rest,findLabel c l=some rest∧H rest (HX.noGoto Q) fr PS
  | x,fr,PS=>Q x fr PS
/-- A function's text,jumps in it:a scope,what goes ahead of it. -/
def hvcJ (hop:HOp) (hdraw:HDraw):Code→(HX→Fr→PL→Prop)→Fr→PL→Prop
  | .scope c,Q,fr,PS=>hvc hop hdraw c (HX.once (hvc hop hdraw) c Q) fr PS
  | .seq x y,Q,fr,PS=>hvc hop hdraw x (HX.then (fun fr PS=>hvcJ hop hdraw y Q fr PS) Q) fr PS
  | c,Q,fr,PS=>hvc hop hdraw c Q fr PS
theorem hvcJ_sound {P:Program} {hop:HOp} {hdraw:HDraw} {ds:List Deferred} {F:Nat→Prop} {e0:List Pos} {D0:Nat→Nat→Prop} {w0:World} (hs:OpSound P hop) (hd:DrawSoundAt P hdraw ds F e0 D0 w0):∀(c:Code) (Q:HX→Fr→PL→Prop) (fr:Fr) (PS:PL) (a:Act) (w:World),
    hvcJ hop hdraw c Q fr PS→St ds F e0 D0 w0 fr PS a w→c.wp P (PostOf ds F e0 D0 w0 Q) a w:=by
  intro c
  induction c with
  | scope c _=>
    intro Q fr PS a w h hst
    refine wp_scope_once (wp_mono (hvc_sound hs hd c _ fr PS a w h hst) ?_)
    rintro x a w ⟨x',fr,PS,rfl,hq,hst⟩
    cases x' with
    | normal=>exact⟨.normal,fr,PS,rfl,hq,hst⟩
    | exit id=>exact⟨.exit id,fr,PS,rfl,hq,hst⟩
    | ret=>exact⟨.ret,fr,PS,rfl,hq,hst⟩
    | goto l=>
      obtain⟨rest,hf,hr⟩:=hq
      refine⟨rest,hf,wp_mono (hvc_sound hs hd rest _ fr PS a w hr hst) ?_⟩
      rintro x a w ⟨x',fr,PS,rfl,hq,hst⟩
      cases x' with
      | normal=>exact⟨.normal,fr,PS,rfl,hq,hst⟩
      | exit id=>exact⟨.exit id,fr,PS,rfl,hq,hst⟩
      | ret=>exact⟨.ret,fr,PS,rfl,hq,hst⟩
      | goto l=>exact hq.elim
  | seq x y _ ihy=>
    intro Q fr PS a w h hst
    refine wp_seq (wp_mono (hvc_sound hs hd x _ fr PS a w h hst) ?_)
    rintro e a w ⟨x',fr,PS,rfl,hq,hst⟩
    cases x' with
    | normal=>exact ihy _ _ _ _ _ hq hst
    | exit id=>exact⟨.exit id,fr,PS,rfl,hq,hst⟩
    | goto l=>exact⟨.goto l,fr,PS,rfl,hq,hst⟩
    | ret=>exact⟨.ret,fr,PS,rfl,hq,hst⟩
  | _=>intro Q fr PS a w h hst;exact hvc_sound hs hd _ Q fr PS a w h hst
section
variable {P:Program} {pu:Pu} {tb:Nat→List Row} {pl:Nat→Plan}
theorem plansOk_label:∀(c:Code) (l:Nat) (rest:Code),plansOk pu tb pl c=true→findLabel c l=some rest→plansOk pu tb pl rest=true:=by
  intro c
  induction c with
  | seq x y ihx ihy=>
    intro l rest h hf
    simp only[plansOk,Bool.and_eq_true] at h
    simp only[findLabel] at hf
    split at hf
    · rename_i r hr
      cases hf
      simp only[plansOk,Bool.and_eq_true]
      exact⟨ihx _ _ h.1 hr,h.2⟩
    · exact ihy _ _ h.2 hf
  | label l'=>
    intro l rest h hf
    simp only[findLabel] at hf
    split at hf
    · cases hf;rfl
    · cases hf
  | _=>intro l rest h hf;simp[findLabel] at hf
/-- A state may be taken for another,within a function that began with so many pieces. -/
def SW (n0:Nat) (fr:Fr) (PS:PL) (fr':Fr) (PS':PL):Prop:=
  ∀ds F e0 D0 w0 (a:Act) (w:World),e0.length=n0→St ds F e0 D0 w0 fr PS a w→St ds F e0 D0 w0 fr' PS' a w
theorem SW.refl (n0:Nat) (fr:Fr) (PS:PL):SW n0 fr PS fr PS:=fun _ _ _ _ _ _ _ _ h=>h
/-- Behind a drawn region:the state,or one that it may be taken for. -/
def drawW (n0:Nat) (hd:HDraw):HDraw:=fun id ops K=>hd id ops fun fr PS=>∃fr' PS',SW n0 fr PS fr' PS'∧K fr' PS'
theorem drawW_sound {n0:Nat} {hd:HDraw} {ds:List Deferred} {F:Nat→Prop} {e0:List Pos} {D0:Nat→Nat→Prop} {w0:World} (h:DrawSoundAt P hd ds F e0 D0 w0) (hl:e0.length=n0):DrawSoundAt P (drawW n0 hd) ds F e0 D0 w0:=by
  intro id ops K fr PS a w hw hst
  refine wp_mono (h id ops _ fr PS a w hw hst) ?_
  rintro x a w ⟨x',fr,PS,rfl,hq,hst⟩
  cases x' with
  | normal=>
    obtain⟨fr',PS',hs,hk⟩:=hq
    exact⟨.normal,fr',PS',rfl,hk,hs _ _ _ _ _ _ _ hl hst⟩
  | _=>exact hq.elim
theorem hvc_plansW {hop:HOp} {n0:Nat}:∀(c:Code),plansOk pu tb pl c=true→hvc hop (drawW n0 (drawBy P pu pl)) c=hvc hop (drawW n0 (drawOk P pu pl)) c:=by
  intro c
  induction c with
  | region id ops draw=>
    intro h
    funext Q fr PS
    cases draw with
    | false=>rfl
    | true=>
      simp only[plansOk,Bool.not_true,Bool.false_or,Bool.and_eq_true] at h
      have h':=h.2
      rw[←sameTab_eq _ _ h.1] at h'
      simp only[hvc,drawW,drawBy,drawOk,h',true_and,if_true]
  | seq x y ihx ihy=>
    intro h
    simp only[plansOk,Bool.and_eq_true] at h
    funext Q fr PS
    simp only[hvc,ihx h.1,ihy h.2]
  | cond c x y ihx ihy=>
    intro h
    simp only[plansOk,Bool.and_eq_true] at h
    funext Q fr PS
    simp only[hvc,ihx h.1,ihy h.2]
  | block id c ih=>intro h;funext Q fr PS;simp only[plansOk] at h;simp only[hvc,ih h]
  | loop c ih=>intro h;funext Q fr PS;simp only[plansOk] at h;simp only[hvc,ih h]
  | scope c ih=>intro h;funext Q fr PS;simp only[plansOk] at h;simp only[hvc,ih h]
  | _=>intro h;rfl
theorem hvcJ_plansW_eq {hop:HOp} {n0:Nat}:∀(c:Code),plansOk pu tb pl c=true→hvcJ hop (drawW n0 (drawBy P pu pl)) c=hvcJ hop (drawW n0 (drawOk P pu pl)) c:=by
  intro c
  induction c with
  | scope c _=>
    intro hp
    have hp':plansOk pu tb pl c=true:=hp
    funext Q fr PS
    simp only[hvcJ]
    have e:HX.once (hvc hop (drawW n0 (drawBy P pu pl))) c Q=HX.once (hvc hop (drawW n0 (drawOk P pu pl))) c Q:=by
      funext x fr PS
      cases x with
      | goto l=>
        simp only[HX.once]
        refine propext ⟨fun⟨rest,hf,h⟩=>⟨rest,hf,?_⟩,fun⟨rest,hf,h⟩=>⟨rest,hf,?_⟩⟩
        · rw[←hvc_plansW rest (plansOk_label c l rest hp' hf)];exact h
        · rw[hvc_plansW rest (plansOk_label c l rest hp' hf)];exact h
      | _=>rfl
    rw[e,hvc_plansW c hp']
  | seq x y _ ihy=>
    intro hp
    simp only[plansOk,Bool.and_eq_true] at hp
    funext Q fr PS
    simp only[hvcJ,hvc_plansW x hp.1,ihy hp.2]
  | _=>
    intro hp
    funext Q fr PS
    show hvc _ _ _ Q fr PS=hvc _ _ _ Q fr PS
    rw[hvc_plansW _ hp]
theorem hvcJ_plansW {hop:HOp} {n0:Nat} (c:Code) (hp:plansOk pu tb pl c=true) (Q:HX→Fr→PL→Prop) (fr:Fr) (PS:PL) (h:hvcJ hop (drawW n0 (drawBy P pu pl)) c Q fr PS):hvcJ hop (drawW n0 (drawOk P pu pl)) c Q fr PS:=by
  rw[←hvcJ_plansW_eq c hp];exact h
end
end Go.Eng
namespace Go.Eng
open Go
variable [Toks]
/-- A slice literal as a piece. -/
def bslP (PS:PL) (n:Nat) (parts:List (Nat×HV)) (K:HV→PL→Prop):Option (Nat×Nat×List HV)→Prop
  | some (s,_,z)=>n*s≤16777216∧n≤65536∧hfillr s (fun E=>K (.sl PS.length 0 0 n (some n)) (PS++[.arr 0 s E false])) (List.replicate n z) parts
  | none=>False
section
variable {P:Program} {ds:List Deferred} {F:Nat→Prop} {e e0:List Pos} {D D0:Nat→Nat→Prop} {PS PS':PL} {w w0 w':World} {fr:Fr} {a:Act} {o:Oper} {K:HV→PL→Prop} {Q:Exit→Act→World→Prop} {M:Nat→Prop}
theorem bslP_sound {t:TypeId} {n:Nat} {parts:Array (Nat×Operand)} (ho:o.op=.buildSlice t n parts) (h:St ds F e0 D0 w0 fr PS a w)
    (hc:bslP PS n (parts.toList.map fun p=>(p.1,ev fr p.2)) K (mkOf P t)):
    o.wp P a w (fun a' w'=>∃v PS',K v PS'∧St ds F e0 D0 w0 (hput fr o.dst v) PS' a' w') Q:=by
  obtain⟨hd,e,D,hr,hf,ht⟩:=h
  cases hm:mkOf P t with
  | none=>rw[hm] at hc;exact hc.elim
  | some q=>
    obtain⟨s,b,z⟩:=q
    rw[hm] at hc
    obtain⟨el,i,zv,hu,hi,hz,hs,hb,hzs,hs0,rfl,h1⟩:=mkOf_some hm
    obtain⟨g1,g2,hc⟩:=hc
    have hrows:=made_rows (M:=Mut F D) (e:=e) (w:=w) zv.cells hzs hs0 h1 n
    obtain⟨E,cs,hfill,hE,hEl,hK⟩:=fillr_sound (F:=F) (D:=D) (e:=e) (w:=w) (parts.toList.map fun p=>(p.1,ev fr p.2)) (parts.toList.map fun p=>(p.1,a.eval p.2)) _ _ hrows (by simp) (by
      intro j p q hp hq
      rw[List.getElem?_map] at hp hq
      cases hx:parts.toList[j]? with
      | none=>rw[hx] at hp;cases hp
      | some y=>rw[hx] at hp hq;cases hp;cases hq;exact⟨rfl,ev_rel hf y.2⟩) hc
    simp only[List.length_replicate] at hEl
    have hcs:(Instr.buildSlice t n (parts.map fun p=>(p.1,a.eval p.2))).run P w=.ok (.slice (some ⟨w.heap.size,0,none⟩) n n) (w.alloc (.cells cs el)):=by
      have hfill':Instr.fill (fun i=>some (i*s,s)) ((Array.range (n*s)).map (zv.cells[· % zv.cells.size]!)) (parts.map fun p=>(p.1,a.eval p.2)).toList=some cs:=by
        rw[Array.toList_map];exact hfill
      have hsmall:¬16777216<n*s:=by omega
      by_cases hn:n*s=0
      · have hn0:n=0:=by rcases Nat.mul_eq_zero.1 hn with h | h;exact h;omega
        subst hn0
        simp only[Nat.zero_mul] at hfill'
        have e0:((Array.range 0).map (zv.cells[· % zv.cells.size]!))=#[]:=by simp
        rw[e0] at hfill'
        simp only[Instr.buildSlice,Sem.run_bind,run_underlying hu,run_sizeOf' hi,Result.andThen_ok,hs,Nat.zero_mul,Nat.reducePow,gt_iff_lt,Nat.not_lt_zero,if_false,if_true,Sem.run_pure]
        have e1:Array.range 0=#[]:=rfl
        rw[e1,Array.map_empty,hfill']
        simp[newRow,newObj,Sem.run]
      · have hzr:(zeroValue el).run P w=.ok zv w:=by simp[zeroValue,typeInfo,hi,hz]
        simp only[Instr.buildSlice,Sem.run_bind,run_underlying hu,run_sizeOf' hi,Result.andThen_ok,hs,Nat.reducePow,gt_iff_lt,hsmall,hn,if_false,Sem.run_pure,hzr,hfill']
        simp[newRow,newObj,Sem.run]
    have hadd:=hr.addRows (post:=[]) el n false hE (by omega) (by intro _;exact hEl) (by simp[maxLen];omega) (by rw[List.append_nil,hE.len,hEl];exact Nat.le_refl _)
    rw[List.append_nil,Array.toArray_toList] at hadd
    have hp:=sl_new (e:=e) (w':=w.alloc (.cells cs el)) (M':=Mut F (addD D PS.length w.heap.size)) (s:=s) (b:=w.heap.size) (len:=n) (cap:=n) (cp:=some n) (by omega) (by simp[maxLen];omega) rfl
    rw[hr.len] at hp
    exact wp_of_value hd hf ht (by simp[execOp,ho,hcs]) hadd (Tr.add _ _ _) hp hK
/-- Numbers known by name are appended to some:known by name. -/
def appN (P:Program) (o:Oper) (fr:Fr) (PS:PL) (K:HV→PL→Prop):Prop:=
  ∃x y t t2 E i j b z,o.op=.call ⟨.builtin .append,⟨[x,y]⟩,⟨[t,t2]⟩⟩∧ev fr x=.imm true E∧ev fr y=.nam i∧Toks.cat E i=some j∧mkOf P t=some (1,b,z)∧b≤8∧notInt P t2∧(∀r∈E,r.length=1)∧K (.nam j) (PS++[.dead])
theorem appN_sound (h:St ds F e0 D0 w0 fr PS a w) (hc:appN P o fr PS K):
    o.wp P a w (fun a' w'=>∃v PS',K v PS'∧St ds F e0 D0 w0 (hput fr o.dst v) PS' a' w') Q:=by
  obtain⟨x,y,t,t2,E,i,j,b,z,ho,hx,hy,hj,hm,hb,hn,hE,hK⟩:=hc
  obtain⟨hd,e,D,hr,hf,ht⟩:=h
  obtain⟨dst,op,ty,pos,after,guard⟩:=o
  simp only at ho
  subst ho
  obtain⟨c1,c2,c3,c4,c5⟩:=Toks.cat_ok E i j hj
  have vy:=ev_rel hf y
  rw[hy] at vy
  have vy:VRel (Mut F D) e w (.imm (Toks.dt i) (Toks.rows i)) (a.eval y):=by cases vy;assumption
  have vx:=ev_rel hf x
  rw[hx] at vx
  have hl:0<(Toks.rows i).length:=List.length_pos_iff.2 c3
  rw[List.length_append] at c5
  obtain⟨z',r,PS',e',D',w',h1,h2,h3,h4,rfl,rfl⟩:=happ_sound (P:=P) (t:=t) (t2:=t2) (ty:=ty) (K:=fun z PS'=>z=.sl PS.length 0 0 (E.length+(Toks.rows i).length) none∧PS'=PS++[.arr 0 1 (E++Toks.rows i) true]) hr vx vy (by
    unfold happ
    rw[hm]
    exact⟨hn,c4,rfl,.inr hl,hE,⟨by omega,by have:(E.length+(Toks.rows i).length)*b≤17592186044416*8:=Nat.mul_le_mul c5 hb;omega⟩,rfl,rfl⟩)
  obtain⟨D2,g1,g2,g3⟩:=h2.frz (getP_last _ _) FrzPS.last0
  have hv:=g3 _ _ r (.sl 0 _ none (by rw[List.length_append];omega)) h4
  rw[List.drop_zero,List.take_of_length_le (by rw[List.length_append];exact Nat.le_refl _),←c2,←c1] at hv
  refine wp_of_value hd hf ht ?_ g1 (h3.trans g2) (.nam j r hv) hK
  have:∃consts,(execOp a.eval ⟨dst,.call ⟨.builtin .append,⟨[x,y]⟩,⟨[t,t2]⟩⟩,ty,pos,after,guard⟩)=builtin .append ⟨[t,t2]⟩ ty consts ([x,y].map a.eval).toArray:=
    ⟨_,by simp[execOp,resolve,invoke,bind,Sem.bind,pure];rfl⟩
  obtain⟨consts,this⟩:=this
  have h0:builtin .append ⟨[t,t2]⟩ ty consts ([x,y].map a.eval).toArray=(do pure (.value (←Builtin.append_ #[t,t2] ty #[a.eval x,a.eval y])):Sem Next):=rfl
  rw[this,h0,Sem.run_bind,h1]
  simp
/-- Nothing is appended. -/
def appZ (P:Program) (o:Oper) (fr:Fr) (PS:PL) (K:HV→PL→Prop):Prop:=
  ∃x y t t2 E t1 t3,o.op=.call ⟨.builtin .append,⟨[x,y]⟩,⟨[t,t2]⟩⟩∧ev fr x=.imm t1 E∧ev fr y=.imm t3 []∧(mkOf P t).isSome∧notInt P t2∧K (.imm t1 E) PS
theorem appZ_sound (h:St ds F e0 D0 w0 fr PS a w) (hc:appZ P o fr PS K):
    o.wp P a w (fun a' w'=>∃v PS',K v PS'∧St ds F e0 D0 w0 (hput fr o.dst v) PS' a' w') Q:=by
  obtain⟨x,y,t,t2,E,t1,t3,ho,hx,hy,hm,hn,hK⟩:=hc
  obtain⟨hd,e,D,hr,hf,ht⟩:=h
  obtain⟨dst,op,ty,pos,after,guard⟩:=o
  simp only at ho
  subst ho
  have vy:=ev_rel hf y
  rw[hy] at vy
  have vx:=ev_rel hf x
  rw[hx] at vx
  obtain⟨⟨s,b,zl⟩,hm⟩:=Option.isSome_iff_exists.1 hm
  obtain⟨el,ti,zv,hu,hi,hz,rfl,rfl,hzs,hs0,rfl,h1z⟩:=mkOf_some hm
  obtain⟨N,vs,rfl,hsrc⟩:=hsrc_sound (P:=P) (s:=ti.size) (K:=fun N=>N=[]) hr vy (⟨by simp,rfl⟩:hsrc PS ti.size (.imm t3 []) fun N=>N=[])
  have hvs:vs=[]:=List.eq_nil_of_length_eq_zero (by simpa using hsrc.rows.len)
  subst hvs
  obtain⟨base,c,hu',hle⟩:∃base c,a.eval x=.slice base E.length c∧E.length≤c:=by
    generalize a.eval x=u at vx
    cases vx with
    | imm _ _ a c b o sz val hc=>exact⟨a,c,rfl,hc⟩
  have hrun:=run_app_room (P:=P) (t2:=t2) (ty:=ty) hu hi hz (N:=[]) (vs:=[]) ⟨hsrc.rows,.inl ⟨hn,hsrc⟩⟩ (base:=base) (len:=E.length) (cap:=c) (by simpa using hle) (w':=w) (fun ad _=>storeCells_nil _) (fun _=>rfl)
  simp only[List.length_nil,Nat.add_zero] at hrun
  rw[←hu'] at hrun
  refine wp_of_value hd hf ht ?_ hr (.refl e D w) vx hK
  have:∃consts,(execOp a.eval ⟨dst,.call ⟨.builtin .append,⟨[x,y]⟩,⟨[t,t2]⟩⟩,ty,pos,after,guard⟩)=builtin .append ⟨[t,t2]⟩ ty consts ([x,y].map a.eval).toArray:=
    ⟨_,by simp[execOp,resolve,invoke,bind,Sem.bind,pure];rfl⟩
  obtain⟨consts,this⟩:=this
  have h0:builtin .append ⟨[t,t2]⟩ ty consts ([x,y].map a.eval).toArray=(do pure (.value (←Builtin.append_ #[t,t2] ty #[a.eval x,a.eval y])):Sem Next):=rfl
  rw[this,h0,Sem.run_bind,hrun]
  simp
end
def hop2 (P:Program):HOp:=fun o fr PS K=>hop P o fr PS K∨(∃t n parts,o.op=.buildSlice t n parts∧bslP PS n (parts.toList.map fun p=>(p.1,ev fr p.2)) K (mkOf P t))∨appN P o fr PS K∨appZ P o fr PS K
theorem hop2_sound {P:Program}:OpSound P (hop2 P):=by
  intro o fr PS K ds F e0 D0 w0 a w Q h hst
  rcases h with h | ⟨t,n,parts,ho,h⟩ | h | h
  · exact hop_sound o fr PS K ds F e0 D0 w0 a w Q h hst
  · exact bslP_sound ho hst h
  · exact appN_sound hst h
  · exact appZ_sound hst h
/-- The contract of a function,out of its text:drawn regions by plans,states taken for others behind them,slice literals as pieces where wanted. -/
theorem hcall_of_plansB {P:Program} {f:FuncId} {fn:Func} {c:Code} {args:List HV} {K:HV→PL→Prop} {PS:PL} (tb:Nat→List Row) (pl:Nat→Plan) (pu:Pu) (hm:P.follows .mixedOrders=true) (hfn:P.funcs[f]? =some fn) (hb:fn.body=some c) (hp:plansOk pu tb pl c=true)
    (h:hvcJ (hop2 P) (drawW PS.length (drawBy P pu pl)) c (hret P fn.results.toList K) (hframe fn.ntmps args) PS):HCall P f args PS K:=by
  intro F e D w vs hr hf
  refine calls_of_wp hfn hb (wp_mono (hvcJ_sound hop2_sound (drawW_sound ((drawOk_sound (pu:=pu) (pl:=pl) hm).at [] F e D w) hr.len) c _ (hframe fn.ntmps args) PS _ w (hvcJ_plansW c hp _ _ _ h) (F:=F) (e0:=e) (D0:=D) (w0:=w) ⟨rfl,e,D,hr,frame_rel _ hf,.refl e D w⟩) ?_)
  rintro x a w' ⟨x',fr,PS',rfl,hq,hd,e',D',hr',hf',ht'⟩
  cases x' with
  | normal=>
    obtain⟨v,y,h1,h2,h3⟩:=hres_post hr' hf' hq
    exact⟨hd,v,h1,v,y,PS',e',D',rfl,h3,hr',ht',h2⟩
  | ret=>
    obtain⟨v,y,h1,h2,h3⟩:=hres_post hr' hf' hq
    exact⟨hd,v,h1,v,y,PS',e',D',rfl,h3,hr',ht',h2⟩
  | exit id=>exact hq.elim
  | goto l=>exact hq.elim
end Go.Eng
namespace Go.Eng
open Go
variable [Toks]
section
variable {P:Program} {ro:Option Nat} {n:Nat} {a:Act} {w:World} {Q:Exit→Act→World→Prop} {ops:Array Oper}
end
section
variable {P:Program} {ro:Option Nat} {hop:HOp} {hdraw:HDraw} {ds:List Deferred} {F:Nat→Prop} {e0:List Pos} {D0:Nat→Nat→Prop} {w0:World}
end
end Go.Eng
namespace Go.Eng
open Go
variable [Toks]
section
variable {P:Program} {F:Nat→Prop} {e e0:List Pos} {D D0:Nat→Nat→Prop} {PS PS':PL} {w w0 w':World} {fr:Fr} {a:Act} {M:Nat→Prop}
end
section
variable {P:Program} {pu:Pu} {hop:HOp} {ro:Option Nat}
end
def mark (d:Nat):Deferred:={target:=.collected d,args:=#[]}
section
variable {P:Program} {gl:Nat} {pu:Pu} {hop:HOp} {hdraw:HDraw} {F:Nat→Prop} {e0:List Pos} {D0:Nat→Nat→Prop} {w0:World}
end
end Go.Eng
