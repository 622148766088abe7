/-
Loops by what they carry; weaker states: slots forgotten, pieces frozen, pieces dropped.
No conditions.
-/
import Derived.Test.YtajjhaidpagflaaGreatQEngS
set_option linter.unusedSectionVars false
set_option linter.unusedSimpArgs false
set_option linter.unusedVariables false
namespace Go.Eng
open Go
variable [Toks]
def WkF:Fr→Fr→Prop
  | [],[]=>True
  | x::l,y::m=>(y=x∨y=.junk)∧WkF l m
  | _,_=>False
@[go_sem] theorem WkF_nil:WkF [] []=True:=rfl
@[go_sem] theorem WkF_cons (x y:HV) (l m:Fr):WkF (x::l) (y::m)=((y=x∨y=.junk)∧WkF l m):=rfl
theorem WkF.get:∀{fr fr':Fr},WkF fr fr'→fr.length=fr'.length∧∀(i:Nat) (y:HV),fr'[i]? =some y→y=.junk∨fr[i]? =some y
  | [],[],_=>⟨rfl,by simp⟩
  | x::l,y::m,h=>by
    obtain⟨h1,h2⟩:=WkF.get h.2
    refine⟨by simp[h1],fun i z hz=>?_⟩
    cases i with
    | zero=>
      simp at hz;subst hz
      rcases h.1 with rfl | rfl
      · right;rfl
      · left;rfl
    | succ i=>simpa using h2 i z (by simpa using hz)
  | [],_::_,h=>h.elim
  | _::_,[],h=>h.elim
theorem WkF.weak {fr fr':Fr} {PS:PL} (h:WkF fr fr'):Weak fr PS fr' PS:=by
  intro F e D w t hr hf
  obtain⟨h1,h2⟩:=h.get
  refine⟨e,D,hr,⟨h1▸hf.1,fun i x u hi hu=>?_⟩,.refl e D w⟩
  rcases h2 i x hi with rfl | h'
  · exact .junk u
  · exact hf.2 i x u h' hu
/-! ### Pieces by place -/
theorem getP_lt {PS:PL} {n v s:Nat} {E:List (List HV)} {o:Bool} (h:getP PS n=.arr v s E o):n<PS.length:=by
  rcases Nat.lt_or_ge n PS.length with h' | h'
  · exact h'
  · unfold getP at h;simp[List.getD,List.getElem?_eq_none h'] at h
theorem getP_app {PS:PL} {n v s:Nat} {E:List (List HV)} {o:Bool} (l:PL) (h:getP PS n=.arr v s E o):getP (PS++l) n=.arr v s E o:=by
  have:=getP_lt h
  unfold getP at*
  simpa [List.getD,List.getElem?_append_left this] using h
theorem getP_last (PS:PL) (q:Piece):getP (PS++[q]) PS.length=q:=by simp[getP,List.getD]
theorem set_last (PS:PL) (q q':Piece):(PS++[q]).set PS.length q'=PS++[q']:=by simp
theorem getP_set_ne {PS:PL} {n m:Nat} (q:Piece) (h:m≠n):getP (PS.set m q) n=getP PS n:=by simp[getP,List.getD,List.getElem?_set_ne h]
theorem getP_set_eq {PS:PL} {n v s:Nat} {E:List (List HV)} {o:Bool} (q:Piece) (h:getP PS n=.arr v s E o):getP (PS.set n q) n=q:=by
  have:=getP_lt h
  simp[getP,List.getD,this]
/-- Slots forgotten:those that are marked. -/
def junks:List Bool→Fr→Fr
  | true::bs,_::fr=>.junk::junks bs fr
  | false::bs,x::fr=>x::junks bs fr
  | _,fr=>fr
def sets:List (Nat×HV)→Fr→Fr
  | [],fr=>fr
  | (i,v)::l,fr=>sets l (fset fr i v)
@[go_sem] theorem junks_nil (fr:Fr):junks [] fr=fr:=by unfold junks;rfl
@[go_sem] theorem junks_true (bs:List Bool) (x:HV) (fr:Fr):junks (true::bs) (x::fr)=.junk::junks bs fr:=_root_.id rfl
@[go_sem] theorem junks_false (bs:List Bool) (x:HV) (fr:Fr):junks (false::bs) (x::fr)=x::junks bs fr:=_root_.id rfl
@[go_sem] theorem sets_nil (fr:Fr):sets [] fr=fr:=_root_.id rfl
@[go_sem] theorem sets_cons (i:Nat) (v:HV) (l:List (Nat×HV)) (fr:Fr):sets ((i,v)::l) fr=sets l (fset fr i v):=_root_.id rfl
section
variable {P:Program} {pu:Pu} {pl:Nat→Plan} {ops:Array Oper} {fr:Fr} {PS:PL}
theorem hguard_mono {w:Bool} {A B A' B':Prop} (ha:A→A') (hb:B→B') {x:HV} (h:hguard w A B x):hguard w A' B' x:=by
  cases x with
  | bool b=>exact⟨fun e=>ha (h.1 e),fun e=>hb (h.2 e)⟩
  | cst v=>cases v<;>first | exact h.elim | exact hb h
  | _=>exact h.elim
theorem hcond_mono {A B A' B':Prop} (ha:A→A') (hb:B→B') {x:HV} (h:hcond A B x):hcond A' B' x:=by
  cases x<;>first | exact h.elim | exact⟨fun e=>ha (h.1 e),fun e=>hb (h.2 e)⟩ | exact⟨ha h.1,hb h.2⟩
theorem hops_mono {K K':Fr→PL→Prop} (hk:∀fr PS,K fr PS→K' fr PS):∀(l:List Oper) (fr:Fr) (PS:PL),hops (hop P) ops l K fr PS→hops (hop P) ops l K' fr PS
  | [],fr,PS,h=>hk fr PS h
  | o::os,fr,PS,h=>by
    simp only[hops] at h ⊢
    cases hg:o.guard with
    | none=>rw[hg] at h;exact hop_mono (fun v PS' _=>hops_mono hk os _ _) h
    | some g=>rw[hg] at h;exact hguard_mono (hop_mono (fun v PS' _=>hops_mono hk os _ _)) (hops_mono hk os _ _) h
theorem hres'_mono {A B:Prop} (hk:A→B):∀(cs:List Nat),hres' P pu ops fr PS A cs→hres' P pu ops fr PS B cs
  | [],h=>hk h
  | _::cs,h=>⟨h.1,hres'_mono hk cs h.2⟩
theorem hplan_mono {K K':Fr→PL→Prop} (hk:∀fr PS,K fr PS→K' fr PS):∀(p:Plan) (fr:Fr) (PS:PL),hplan P pu ops K p fr PS→hplan P pu ops K' p fr PS
  | .done,fr,PS,h=>hk fr PS h
  | .none,_,_,_=>trivial
  | .one i p,fr,PS,h=>by
    simp only[hplan,hone1] at h ⊢
    cases ho:ops[i]? with
    | none=>rw[ho] at h;exact h
    | some o=>rw[ho] at h;exact hgd_mono (hval1_mono fun v=>hplan_mono hk p _ _) (hplan_mono hk p _ _) h
  | .alt i cs p q,fr,PS,h=>⟨hstep_mono (fun fr PS=>hres'_mono (hplan_mono hk p fr PS) cs) h.1,hplan_mono hk q fr PS h.2⟩
theorem hallocs_mono {K K':Fr→PL→Prop} (hk:∀fr PS,K fr PS→K' fr PS):∀(J:List Nat) (fr:Fr) (PS:PL),hallocs P ops K J fr PS→hallocs P ops K' J fr PS
  | [],fr,PS,h=>hk fr PS h
  | j::J,fr,PS,h=>by
    simp only[hallocs] at h ⊢
    split at h
    · exact halloc_mono (fun v PS' _=>hallocs_mono hk J _ PS') h
    · exact h
theorem hdrawP_mono {K K':Fr→PL→Prop} (hk:∀fr PS,K fr PS→K' fr PS) (p:Plan) (fr:Fr) (PS:PL) (h:hdrawP P pu ops K p fr PS):hdrawP P pu ops K' p fr PS:=by
  cases p with
  | late J dp p1 p2=>exact⟨h.1,hplan_mono (hallocs_mono (hplan_mono hk p2) J) p1 fr PS h.2⟩
  | _=>exact hplan_mono hk _ fr PS h
theorem hvc_mono:∀(c:Code) (Q Q':HX→Fr→PL→Prop) (_:∀x fr PS,Q x fr PS→Q' x fr PS) (fr:Fr) (PS:PL),hvc (hop P) (drawBy P pu pl) c Q fr PS→hvc (hop P) (drawBy P pu pl) c Q' fr PS:=by
  intro c
  induction c with
  | skip=>intro Q Q' hq fr PS h;exact hq _ _ _ h
  | region id ops draw=>
    intro Q Q' hq fr PS h
    cases draw with
    | true=>exact hdrawP_mono (hq .normal) _ _ _ h
    | false=>exact hops_mono (hq .normal) _ _ _ h
  | seq x y ihx ihy=>
    intro Q Q' hq fr PS h
    refine ihx _ _ (fun x fr PS hh=>?_) fr PS h
    cases x with
    | normal=>exact ihy _ _ hq _ _ hh
    | exit id=>exact hq _ _ _ hh
    | goto l=>exact hq _ _ _ hh
    | ret=>exact hq _ _ _ hh
  | cond c x y ihx ihy=>intro Q Q' hq fr PS h;exact hcond_mono (ihx _ _ hq _ _) (ihy _ _ hq _ _) h
  | block id c ih=>
    intro Q Q' hq fr PS h
    refine ih _ _ (fun x fr PS hh=>?_) fr PS h
    cases x with
    | normal=>exact hq _ _ _ hh
    | exit id'=>
      simp only[HX.inBlock] at hh ⊢
      split
      · rename_i hi;rw[if_pos hi] at hh;exact hq _ _ _ hh
      · rename_i hi;rw[if_neg hi] at hh;exact hq _ _ _ hh
    | goto l=>exact hq _ _ _ hh
    | ret=>exact hq _ _ _ hh
  | loop c ih=>
    intro Q Q' hq fr PS h
    obtain⟨I,h0,hs⟩:=h
    refine⟨I,h0,fun n fr PS hi=>ih _ _ (fun x fr PS hh=>?_) fr PS (hs n fr PS hi)⟩
    cases x with
    | normal=>exact hh
    | exit id=>exact hq _ _ _ hh
    | goto l=>exact hq _ _ _ hh
    | ret=>exact hq _ _ _ hh
  | scope c ih=>
    intro Q Q' hq fr PS h
    refine ih _ _ (fun x fr PS hh=>?_) fr PS h
    cases x with
    | normal=>exact hq _ _ _ hh
    | exit id=>exact hq _ _ _ hh
    | goto l=>exact hh
    | ret=>exact hq _ _ _ hh
  | exit id=>intro Q Q' hq fr PS h;exact hq _ _ _ h
  | label l=>intro Q Q' hq fr PS h;exact hq _ _ _ h
  | goto l=>intro Q Q' hq fr PS h;exact hq _ _ _ h
  | ret=>intro Q Q' hq fr PS h;exact hq _ _ _ h
  | rangeFunc f ps x y _ _=>intro Q Q' hq fr PS h;exact h.elim
  | refuse s=>intro Q Q' hq fr PS h;exact h.elim
end
/-- A loop,by what it carries:T the slots that it forgets,C those that it carries. -/
theorem loop_rule {P:Program} {pu:Pu} {pl:Nat→Plan} {c:Code} {Q:HX→Fr→PL→Prop} {fr:Fr} {PS:PL} {α:Type} (T:List Bool) (C:α→List (Nat×HV)) (μ:α→Nat) (R:α→PL→Prop) (a0:α)
    (h0:R a0 PS) (hw:WkF fr (sets (C a0) (junks T fr)))
    (step:∀a PS1,R a PS1→hvc (hop P) (drawBy P pu pl) c (HX.then (fun fr2 PS2=>∃b,μ b<μ a∧R b PS2∧WkF fr2 (sets (C b) (junks T fr))) Q) (sets (C a) (junks T fr)) PS1):
    HLoop (hop P) (drawBy P pu pl) c Q fr PS:=by
  refine⟨fun n f PS1=>∃a,μ a=n∧R a PS1∧f=sets (C a) (junks T fr),⟨μ a0,_,PS,hw.weak,a0,rfl,h0,rfl⟩,?_⟩
  rintro n f PS1 ⟨a,rfl,hR,rfl⟩
  refine hvc_mono c _ _ (fun x fr1 PS1 hh=>?_) _ _ (step a PS1 hR)
  cases x with
  | normal=>obtain⟨b,h1,h2,h3⟩:=hh;exact⟨μ b,_,PS1,h1,h3.weak,b,rfl,h2,rfl⟩
  | exit id=>exact hh
  | goto l=>exact hh
  | ret=>exact hh
section
variable {F:Nat→Prop} {e:List Pos} {D:Nat→Nat→Prop} {PS:PL} {w:World}
/-- An owned row as a slice by its contents. -/
def frz (n ver:Nat) (E:List (List HV)):HV→HV
  | .sl n' ver' i len c=>if n'=n∧ver'=ver then .imm false ((E.drop i).take len) else .sl n' ver' i len c
  | x=>x
end
end Go.Eng
