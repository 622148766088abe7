/-
Loops by what they carry; weaker states: slots forgotten, pieces frozen, pieces dropped.
No conditions.
-/
import Derived.Test.YtbmibhjjogobhaaGreatQEngS
set_option linter.unusedSectionVars false
set_option linter.unusedSimpArgs false
set_option linter.unusedVariables false
namespace Go.Eng
open Go
variable [zB]
def WkF:Fr→Fr→Prop
 | [],[]=>True
 | x::l,y::m=>(y=x∨y=.junk)∧WkF l m
 | _,_=>False
@[go_sem] theorem zYM:WkF [] []=True:=rfl
@[go_sem] theorem zSq (x y:HV) (l m:Fr):WkF (x::l) (y::m)=((y=x∨y=.junk)∧WkF l m):=rfl
theorem WkF.get:∀{fr fr':Fr},WkF fr fr'→fr.length=fr'.length∧∀(i:Nat) (y:HV),fr'[i]? =some y→y=.junk∨fr[i]? =some y
 | [],[],_=>⟨rfl,by simp⟩
 | x::l,y::m,h=>by
  obtain⟨h1,h2⟩:=WkF.get h.2
  refine⟨by simp[h1],fun i z hz=>?_⟩
  cases i with
  | zero=>
   simp at hz;subst hz
   rcases h.1 with rfl | rfl
   ·right;rfl
   ·left;rfl
  | succ i=>simpa using h2 i z (by simpa using hz)
 | [],_::_,h=>h.elim
 | _::_,[],h=>h.elim
theorem WkF.kK {fr fr':Fr} {PS:PL} (h:WkF fr fr'):xV fr PS fr' PS:=by
 intro F e D w t hr hf
 obtain⟨h1,h2⟩:=h.get
 refine⟨e,D,hr,⟨h1▸hf.1,fun i x u hi hu=>?_⟩,.refl e D w⟩
 rcases h2 i x hi with rfl | h'
 ·exact .junk u
 ·exact hf.2 i x u h' hu
/-! ### Pieces by place -/
theorem yB {PS:PL} {n v s:Nat} {E:List (List HV)} {o:Bool} (h:zA PS n=.arr v s E o):n<PS.length:=by
 rcases Nat.lt_or_ge n PS.length with h' | h'
 ·exact h'
 ·unfold zA at h;simp[List.getD,List.getElem?_eq_none h'] at h
theorem zx {PS:PL} {n v s:Nat} {E:List (List HV)} {o:Bool} (l:PL) (h:zA PS n=.arr v s E o):zA (PS++l) n=.arr v s E o:=by
 have:=yB h
 unfold zA at*
 simpa [List.getD,List.getElem?_append_left this] using h
theorem zt (PS:PL) (q:zC):zA (PS++[q]) PS.length=q:=by simp[zA,List.getD]
theorem YJ (PS:PL) (q q':zC):(PS++[q]).set PS.length q'=PS++[q']:=by simp
theorem zO {PS:PL} {n m:Nat} (q:zC) (h:m≠n):zA (PS.set m q) n=zA PS n:=by simp[zA,List.getD,List.getElem?_set_ne h]
theorem zk {PS:PL} {n v s:Nat} {E:List (List HV)} {o:Bool} (q:zC) (h:zA PS n=.arr v s E o):zA (PS.set n q) n=q:=by
 have:=yB h
 simp[zA,List.getD,this]
/-- Slots forgotten:those that are marked. -/
def vJ:List Bool→Fr→Fr
 | true::bs,_::fr=>.junk::vJ bs fr
 | false::bs,x::fr=>x::vJ bs fr
 | _,fr=>fr
def jO:List (Nat×HV)→Fr→Fr
 | [],fr=>fr
 | (i,v)::l,fr=>jO l (xN fr i v)
@[go_sem] theorem zZy (fr:Fr):vJ [] fr=fr:=by unfold vJ;rfl
@[go_sem] theorem zV0 (bs:List Bool) (x:HV) (fr:Fr):vJ (true::bs) (x::fr)=.junk::vJ bs fr:=_root_.id rfl
@[go_sem] theorem zVI (bs:List Bool) (x:HV) (fr:Fr):vJ (false::bs) (x::fr)=x::vJ bs fr:=_root_.id rfl
@[go_sem] theorem zbi (fr:Fr):jO [] fr=fr:=_root_.id rfl
@[go_sem] theorem zYW (i:Nat) (v:HV) (l:List (Nat×HV)) (fr:Fr):jO ((i,v)::l) fr=jO l (xN fr i v):=_root_.id rfl
section
variable {P:Program} {pu:Pu} {pl:Nat→zL} {ops:Array Oper} {fr:Fr} {PS:PL}
theorem zF0 {w:Bool} {A B A' B':Prop} (ha:A→A') (hb:B→B') {x:HV} (h:jF w A B x):jF w A' B' x:=by
 cases x with
 | bool b=>exact⟨fun e=>ha (h.1 e),fun e=>hb (h.2 e)⟩
 | cst v=>cases v<;>first | exact h.elim | exact hb h
 | _=>exact h.elim
theorem Ge {A B A' B':Prop} (ha:A→A') (hb:B→B') {x:HV} (h:wU A B x):wU A' B' x:=by
 cases x<;>first | exact h.elim | exact⟨fun e=>ha (h.1 e),fun e=>hb (h.2 e)⟩ | exact⟨ha h.1,hb h.2⟩
theorem Vj {K K':Fr→PL→Prop} (hk:∀fr PS,K fr PS→K' fr PS):∀(l:List Oper) (fr:Fr) (PS:PL),zf (hop P) ops l K fr PS→zf (hop P) ops l K' fr PS
 | [],fr,PS,h=>hk fr PS h
 | o::os,fr,PS,h=>by
  simp only[zf] at h ⊢
  cases hg:o.guard with
  | none=>rw[hg] at h;exact XH (fun v PS' _=>Vj hk os _ _) h
  | some g=>rw[hg] at h;exact zF0 (XH (fun v PS' _=>Vj hk os _ _)) (Vj hk os _ _) h
theorem zAW {A B:Prop} (hk:A→B):∀(cs:List Nat),ub P pu ops fr PS A cs→ub P pu ops fr PS B cs
 | [],h=>hk h
 | _::cs,h=>⟨h.1,zAW hk cs h.2⟩
theorem xh {K K':Fr→PL→Prop} (hk:∀fr PS,K fr PS→K' fr PS):∀(p:zL) (fr:Fr) (PS:PL),zg P pu ops K p fr PS→zg P pu ops K' p fr PS
 | .done,fr,PS,h=>hk fr PS h
 | .none,_,_,_=>trivial
 | .one i p,fr,PS,h=>by
  simp only[zg,XB] at h ⊢
  cases ho:ops[i]? with
  | none=>rw[ho] at h;exact h
  | some o=>rw[ho] at h;exact xP (UA fun v=>xh hk p _ _) (xh hk p _ _) h
 | .alt i cs p q,fr,PS,h=>⟨Uu (fun fr PS=>zAW (xh hk p fr PS) cs) h.1,xh hk q fr PS h.2⟩
theorem zEH {K K':Fr→PL→Prop} (hk:∀fr PS,K fr PS→K' fr PS):∀(J:List Nat) (fr:Fr) (PS:PL),uk P ops K J fr PS→uk P ops K' J fr PS
 | [],fr,PS,h=>hk fr PS h
 | j::J,fr,PS,h=>by
  simp only[uk] at h ⊢
  split at h
  ·exact zA6 (fun v PS' _=>zEH hk J _ PS') h
  ·exact h
theorem Vc {K K':Fr→PL→Prop} (hk:∀fr PS,K fr PS→K' fr PS) (p:zL) (fr:Fr) (PS:PL) (h:yI P pu ops K p fr PS):yI P pu ops K' p fr PS:=by
 cases p with
 | late J dp p1 p2=>exact⟨h.1,xh (zEH (xh hk p2) J) p1 fr PS h.2⟩
 | _=>exact xh hk _ fr PS h
theorem zOu:∀(c:Code) (Q Q':HX→Fr→PL→Prop) (_:∀x fr PS,Q x fr PS→Q' x fr PS) (fr:Fr) (PS:PL),hvc (hop P) (yW P pu pl) c Q fr PS→hvc (hop P) (yW P pu pl) c Q' fr PS:=by
 intro c
 induction c with
 | skip=>intro Q Q' hq fr PS h;exact hq _ _ _ h
 | region id ops draw=>
  intro Q Q' hq fr PS h
  cases draw with
  | true=>exact Vc (hq .normal) _ _ _ h
  | false=>exact Vj (hq .normal) _ _ _ h
 | seq x y ihx ihy=>
  intro Q Q' hq fr PS h
  refine ihx _ _ (fun x fr PS hh=>?_) fr PS h
  cases x with
  | normal=>exact ihy _ _ hq _ _ hh
  | exit id=>exact hq _ _ _ hh
  | goto l=>exact hq _ _ _ hh
  | ret=>exact hq _ _ _ hh
 | cond c x y ihx ihy=>intro Q Q' hq fr PS h;exact Ge (ihx _ _ hq _ _) (ihy _ _ hq _ _) h
 | block id c ih=>
  intro Q Q' hq fr PS h
  refine ih _ _ (fun x fr PS hh=>?_) fr PS h
  cases x with
  | normal=>exact hq _ _ _ hh
  | exit id'=>
   simp only[HX.inBlock] at hh ⊢
   split
   ·rename_i hi;rw[if_pos hi] at hh;exact hq _ _ _ hh
   ·rename_i hi;rw[if_neg hi] at hh;exact hq _ _ _ hh
  | goto l=>exact hq _ _ _ hh
  | ret=>exact hq _ _ _ hh
 | loop c ih=>
  intro Q Q' hq fr PS h
  obtain⟨I,h0,hs⟩:=h
  refine⟨I,h0,fun n fr PS hi=>ih _ _ (fun x fr PS hh=>?_) fr PS (hs n fr PS hi)⟩
  cases x with
  | normal=>exact hh
  | exit id=>exact hq _ _ _ hh
  | goto l=>exact hq _ _ _ hh
  | ret=>exact hq _ _ _ hh
 | scope c ih=>
  intro Q Q' hq fr PS h
  refine ih _ _ (fun x fr PS hh=>?_) fr PS h
  cases x with
  | normal=>exact hq _ _ _ hh
  | exit id=>exact hq _ _ _ hh
  | goto l=>exact hh
  | ret=>exact hq _ _ _ hh
 | exit id=>intro Q Q' hq fr PS h;exact hq _ _ _ h
 | label l=>intro Q Q' hq fr PS h;exact hq _ _ _ h
 | goto l=>intro Q Q' hq fr PS h;exact hq _ _ _ h
 | ret=>intro Q Q' hq fr PS h;exact hq _ _ _ h
 | rangeFunc f ps x y _ _=>intro Q Q' hq fr PS h;exact h.elim
 | refuse s=>intro Q Q' hq fr PS h;exact h.elim
end
/-- A loop,by what it carries:T the slots that it forgets,C those that it carries. -/
theorem zq {P:Program} {pu:Pu} {pl:Nat→zL} {c:Code} {Q:HX→Fr→PL→Prop} {fr:Fr} {PS:PL} {α:Type} (T:List Bool) (C:α→List (Nat×HV)) (μ:α→Nat) (R:α→PL→Prop) (a0:α)
  (h0:R a0 PS) (hw:WkF fr (jO (C a0) (vJ T fr)))
  (step:∀a PS1,R a PS1→hvc (hop P) (yW P pu pl) c (HX.then (fun fr2 PS2=>∃b,μ b<μ a∧R b PS2∧WkF fr2 (jO (C b) (vJ T fr))) Q) (jO (C a) (vJ T fr)) PS1):
  yQ (hop P) (yW P pu pl) c Q fr PS:=by
 refine⟨fun n f PS1=>∃a,μ a=n∧R a PS1∧f=jO (C a) (vJ T fr),⟨μ a0,_,PS,hw.kK,a0,rfl,h0,rfl⟩,?_⟩
 rintro n f PS1 ⟨a,rfl,hR,rfl⟩
 refine zOu c _ _ (fun x fr1 PS1 hh=>?_) _ _ (step a PS1 hR)
 cases x with
 | normal=>obtain⟨b,h1,h2,h3⟩:=hh;exact⟨μ b,_,PS1,h1,h3.kK,b,rfl,h2,rfl⟩
 | exit id=>exact hh
 | goto l=>exact hh
 | ret=>exact hh
section
variable {F:Nat→Prop} {e:List Pos} {D:Nat→Nat→Prop} {PS:PL} {w:World}
/-- An owned row as a slice by its contents. -/
def frz (n ver:Nat) (E:List (List HV)):HV→HV
 | .sl n' ver' i len c=>if n'=n∧ver'=ver then .imm false ((E.drop i).take len) else .sl n' ver' i len c
 | x=>x
end
end Go.Eng
