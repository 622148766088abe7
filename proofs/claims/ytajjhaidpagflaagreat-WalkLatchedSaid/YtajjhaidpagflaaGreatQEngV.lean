/-
Operations: more of what follows gives more of what they mean; what they leave of the pieces, by class; they hang on their operands alone.
Regions that draw their order: a plan of the orders that matter.
Regions that draw their order: every order, and a plan of the orders that matter.
No conditions.
-/
import Derived.Test.YtajjhaidpagflaaGreatQEngR
import Derived.Orders
set_option linter.unusedSectionVars false
set_option linter.unusedSimpArgs false
set_option linter.unusedVariables false
namespace Go.Eng
open Go
variable [Toks]
/-- What an operation of a class leaves. -/
def Kept (c:Nat) (PS PS':PL):Prop:=(c≤2→PS'=PS)∧(c=3→Pre PS PS')∧(c=4→Shp PS PS')
section
variable {P:Program} {PS PS':PL} {fr fr':Fr} {o:Oper} {K K':HV→PL→Prop}
theorem pre_append (PS:PL) (p:Piece):Pre PS (PS++[p]):=fun n=>by
  unfold getP
  by_cases h:n<PS.length
  · right;simp[List.getD,List.getElem?_append_left h]
  · left;simp[List.getD,List.getElem?_eq_none (Nat.le_of_not_lt h)]
theorem shp_set {n i k:Nat} {ver sz:Nat} {E:List (List HV)} {opn:Bool} {l c:List HV} (h:getP PS n=.arr ver sz E opn) (hi:E[i]? =some l) (hk:k+c.length≤l.length):
    Shp PS (PS.set n (.arr ver sz (E.set i (hsplice k c l)) opn)):=by
  intro m ver' sz' E' opn' hm
  by_cases hn:m=n
  · subst hn
    rw[h] at hm;cases hm
    have hlt:m<PS.length:=by
      rcases Nat.lt_or_ge m PS.length with h' | h'
      · exact h'
      · unfold getP at h;simp[List.getD,List.getElem?_eq_none h'] at h
    refine⟨E.set i (hsplice k c l),?_,by simp,?_⟩
    · unfold getP;simp[List.getD,hlt]
    · intro j lj hj
      by_cases hij:j=i
      · subst hij
        rw[hi] at hj;cases hj
        have hlt2:j<E.length:=(List.getElem?_eq_some_iff.1 hi).1
        refine⟨hsplice k c l,by simp[hlt2],?_⟩
        unfold hsplice;simp;omega
      · exact⟨lj,by rw[List.getElem?_set_ne (Ne.symm hij)];exact hj,rfl⟩
  · refine⟨E',?_,rfl,fun j lj hj=>⟨lj,hj,rfl⟩⟩
    unfold getP at*
    simpa [List.getD,List.getElem?_set_ne (Ne.symm hn)] using hm
theorem halloc_mono {t:TypeId} (hk:∀v PS',Pre PS PS'→K v PS'→K' v PS') (h:halloc P t PS K):halloc P t PS K':=by
  unfold halloc at*;split at h
  · exact hk _ _ (pre_append _ _) h
  · exact h
theorem hbox_mono {x:HV} (hk:∀v PS',Pre PS PS'→K v PS'→K' v PS') (h:hbox x PS K):hbox x PS K':=
  hst_mono (fun _ h=>hk _ _ (pre_append _ _) h) h
theorem hmake_mono {l c:HV} {q:Option (Nat×Nat×List HV)} (hk:∀v PS',Pre PS PS'→K v PS'→K' v PS') (h:hmake PS l c K q):hmake PS l c K' q:=by
  unfold hmake at*;split at h
  · unfold hmake2 at*;split at h
    · obtain⟨h1,h2,h3,h4,h5⟩:=h;exact⟨h1,h2,h3,h4,hk _ _ (pre_append _ _) h5⟩
    · exact h
  · exact h
theorem hstore_mono {a x:HV} {q:Option (Bool×Nat)} {K K':PL→Prop} (hk:∀PS',Shp PS PS'→K PS'→K' PS') (h:hstore PS a x K q):hstore PS a x K' q:=by
  unfold hstore at*;split at h
  · refine hst_mono ?_ h
    rintro c ⟨h1,h2⟩
    refine⟨h1,?_⟩
    split at h2
    · split at h2
      · rename_i hg
        obtain⟨h3,l,h4,h5,h6⟩:=h2
        subst h3
        exact⟨rfl,l,h4,h5,hk _ (shp_set hg h4 (by omega)) h6⟩
      · exact h2
    · exact h2
  · exact h
theorem hsrc_mono {K K':List (List HV)→Prop} {s:Nat} {x:HV} (hk:∀v,K v→K' v) (h:hsrc PS s x K):hsrc PS s x K':=by
  unfold hsrc at*;split at h
  · exact⟨h.1,hk _ h.2⟩
  · exact hrows_mono hk h
theorem happ2_mono {s b:Nat} {x:HV} {N:List (List HV)} (hk:∀v PS',K v PS'→K' v PS') (h:happ2 PS s b x N K):happ2 PS s b x N K':=by
  unfold happ2 at*;split at h
  · obtain⟨h1,h2,h3,h4,h5⟩:=h;exact⟨h1,h2,h3,h4,hk _ _ h5⟩
  · split at h
    · obtain⟨h1,h2,h3 | h3⟩:=h
      · exact⟨h1,h2,.inl ⟨h3.1,h3.2.1,hk _ _ h3.2.2⟩⟩
      · exact⟨h1,h2,.inr ⟨h3.1,h3.2.1,hk _ _ h3.2.2⟩⟩
    · exact h
  · split at h
    · obtain⟨h1,h2,h3,h4,h5,h6⟩:=h;exact⟨h1,h2,h3,h4,h5,hk _ _ h6⟩
    · exact h
  · exact h
theorem happY_mono {s b:Nat} {x y:HV} {z:List HV} {A B:Prop} (hk:∀v PS',K v PS'→K' v PS') (h:happY PS x A B K s b z y):happY PS x A B K' s b z y:=by
  cases y
  case int k n=>
    cases k<;>first | exact⟨h.1,h.2.1,h.2.2.1,h.2.2.2.1,happ2_mono hk h.2.2.2.2⟩ | exact⟨h.1,hsrc_mono (fun N=>happ2_mono hk) h.2⟩
  all_goals exact⟨h.1,hsrc_mono (fun N=>happ2_mono hk) h.2⟩
theorem hput2_mono {s:Nat} {x:HV} {N:Nat→List (List HV)} {K K':PL→Prop} (hk:∀PS',K PS'→K' PS') (h:hput2 PS s x N K):hput2 PS s x N K':=by
  unfold hput2 at*;split at h
  · split at h
    · obtain⟨h1,h2,h3,h4,h5⟩:=h;exact⟨h1,h2,h3,h4,hk _ h5⟩
    · exact h
  · obtain⟨h0,h⟩:=h
    refine⟨h0,?_⟩
    split at h
    · obtain⟨h1,l,h2,h3,h4⟩:=h;exact⟨h1,l,h2,h3,hk _ h4⟩
    · exact h
  · exact h
theorem hbuiltin_mono {b:Builtin} {ts:List TypeId} {xs:List HV} (hk:∀v PS',K v PS'→K' v PS') (h:hbuiltin P b ts xs PS K):hbuiltin P b ts xs PS K':=by
  unfold hbuiltin at*;split at h
  · exact hlen_mono (fun v=>hk v PS) h
  · unfold happ at*;split at h
    · exact happY_mono hk h
    · exact h
  · unfold hcopy at*;split at h
    · exact hsrc_mono (fun N=>hput2_mono fun PS'=>hk _ _) h
    · exact h
  · unfold hclear at*;split at h
    · exact hput2_mono (fun PS'=>hk _ _) h
    · exact h
  · unfold hmapdel at*;split at h
    · split at h
      · unfold hmapOf at*;split at h
        · exact⟨h.1,h.2.1,h.2.2.1,hk _ _ h.2.2.2⟩
        · exact h
      · exact h
    · exact h
  · exact hminmax_mono (fun v=>hk v PS) h
  · exact hminmax_mono (fun v=>hk v PS) h
  · exact h
theorem hslnil_mono {op:BinOp} {t:TypeId} {x:HV} {K K':HV→Prop} (hk:∀v,K v→K' v) (h:hslnil P PS op t x K):hslnil P PS op t x K':=by
  unfold hslnil at*
  refine⟨h.1,?_⟩
  have h:=h.2
  split at h
  · exact⟨fun e=>(h.1 e).imp (hbt_mono hk) (hbt_mono hk),fun e=>hbt_mono hk (h.2 e)⟩
  · exact⟨h.1,fun e=>(h.2.1 e).imp (hbt_mono hk) (hbt_mono hk),fun e=>hbt_mono hk (h.2.2 e)⟩
  · exact h
theorem hmapset_mono {m ix x:HV} {K K':PL→Prop} {z:Option (IntKind×HV)} (hk:∀v,K v→K' v) (h:hmapset PS m ix x K z):hmapset PS m ix x K' z:=by
  unfold hmapset at*
  split at h
  · split at h
    · unfold hmapOf at*
      split at h
      · exact⟨h.1,h.2.1,h.2.2.1,hk _ h.2.2.2⟩
      · exact h
    · unfold hmapOfT at*
      split at h
      · exact⟨h.1,h.2.1,h.2.2.1,h.2.2.2.1,hk _ h.2.2.2.2⟩
      · exact⟨h.1,h.2.1,h.2.2.1,h.2.2.2.1,hk _ h.2.2.2.2⟩
      · exact h
    · exact h
  · exact h
theorem hmkmap_mono {z:Option IntKind} (hk:∀v PS',K v PS'→K' v PS') (h:hmkmap PS K z):hmkmap PS K' z:=by
  unfold hmkmap at*
  split at h
  · exact hk _ _ h
  · exact h
theorem hrange_mono {m:HV} {z:Option (IntKind×HV)} (hk:∀v PS',K v PS'→K' v PS') (h:hrange PS m K z):hrange PS m K' z:=by
  unfold hrange at*
  split at h
  · split at h
    · unfold hmapOf at*
      split at h
      · exact⟨h.1,hk _ _ h.2⟩
      · exact h
    · exact h
  · exact h
theorem hnext_mono {it:HV} (hk:∀v PS',K v PS'→K' v PS') (h:hnext PS it K):hnext PS it K':=by
  unfold hnext at*
  split at h
  · unfold hiterOf at*
    split at h
    · refine⟨h.1,?_⟩
      have h:=h.2
      split at h
      · unfold hmapOf at*
        split at h
        · exact⟨h.1,h.2.1,h.2.2.1,fun i b key y h1 h2=>hk _ _ (h.2.2.2.1 i b key y h1 h2),fun h1=>hk _ _ (h.2.2.2.2 h1)⟩
        · exact h
      · exact h
    · exact h
  · exact h
theorem hentry_mono {it:HV} {K K':HV→Prop} (hk:∀v,K v→K' v) (h:hentry PS it K):hentry PS it K':=by
  unfold hentry at*
  split at h
  · unfold hiterOf at*
    split at h
    · refine⟨h.1,?_⟩
      have h:=h.2
      split at h
      · unfold hmapOf at*
        split at h
        · refine⟨h.1,h.2.1,?_⟩
          have h:=h.2.2
          split at h
          · exact hk _ h
          · exact h
        · exact h
      · exact h
    · exact h
  · exact h
theorem hcallv_mono {args:List HV} {q:Option (FuncId×List HV×List HV)} (hk:∀v PS',K v PS'→K' v PS') (h:hcallv P args PS K q):hcallv P args PS K' q:=by
  unfold hcallv at*;split at h
  · exact⟨h.1,h.2.mono hk⟩
  · exact h
theorem hinvoke_mono {nm:String} {x:HV} {args:List HV} (hk:∀v PS',K v PS'→K' v PS') (h:hinvoke P nm x args PS K):hinvoke P nm x args PS K':=by
  cases x with
  | iface t y=>
    simp only[hinvoke] at h ⊢
    cases hg:hmeth P t nm with
    | none=>rw[hg] at h;exact h.elim
    | some g=>rw[hg] at h;exact⟨h.1,h.2.mono hk⟩
  | _=>exact h.elim
theorem hassert_mono {t:TypeId} {x:HV} {ok:Bool} {d:Option TypeDesc} {K K':HV→Prop} (hk:∀v,K v→K' v) (h:hassert P t x ok K d):hassert P t x ok K' d:=by
  have main:hassV P t ok K x→hassV P t ok K' x:=by
    intro h
    cases x with
    | iface t' y=>
      simp only[hassV] at h ⊢
      by_cases ht:t'=t
      · rw[if_pos ht] at h ⊢;exact hk _ h
      · rw[if_neg ht] at h ⊢
        refine⟨h.1,?_⟩
        have h2:=h.2
        cases hz:(P.info? t).bind (·.zero) with
        | none=>rw[hz] at h2;exact h2.elim
        | some z=>rw[hz] at h2;exact hk _ h2
    | _=>exact h.elim
  cases d with
  | none=>exact h
  | some d=>cases d<;>first | exact main h | exact h
theorem hop_mono (hk:∀v PS',Kept (cls o) PS PS'→K v PS'→K' v PS') (h:hop P o fr PS K):hop P o fr PS K':=by
  by_cases hc:cls o≤2
  · rw[hop_val hc] at*
    exact hval_mono (fun v hv=>hk v PS ⟨fun _=>rfl,fun h3=>by omega,fun h4=>by omega⟩ hv) h
  · obtain⟨dst,op,ty,pos,after,guard⟩:=o
    cases op with
    | alloc t=>exact halloc_mono (fun v PS' hp=>hk v PS' ⟨fun h=>by simp[cls] at h,fun _=>hp,fun _=>hp.shp⟩) h
    | box t x=>exact hbox_mono (fun v PS' hp=>hk v PS' ⟨fun h=>by simp[cls] at h,fun _=>hp,fun _=>hp.shp⟩) h
    | makeSlice t l c=>exact hmake_mono (fun v PS' hp=>hk v PS' ⟨fun h=>by simp[cls] at h,fun _=>hp,fun _=>hp.shp⟩) h
    | store t x y=>exact hstore_mono (fun PS' hp=>hk _ PS' ⟨fun h=>by simp[cls] at h,fun h=>by simp[cls] at h,fun _=>hp⟩) h
    | binOp op t x y t2=>
      cases hy:isNilSl y
      · simp[cls,hy] at hc
      · simp only[hop,hbinO,hy,if_true] at h ⊢
        exact hslnil_mono (fun v hv=>hk v PS ⟨fun _=>rfl,fun h=>by simp[cls,hy] at h,fun h=>by simp[cls,hy] at h⟩ hv) h
    | makeMap t r=>cases r with
      | none=>exact hmkmap_mono (fun v PS'=>hk v PS' ⟨fun h=>by simp[cls] at h,fun h=>by simp[cls] at h,fun h=>by simp[cls] at h⟩) h
      | some r=>exact h.elim
    | mapUpdate t m x y=>exact hmapset_mono (fun PS'=>hk _ PS' ⟨fun h=>by simp[cls] at h,fun h=>by simp[cls] at h,fun h=>by simp[cls] at h⟩) h
    | range t m=>exact hrange_mono (fun v PS'=>hk v PS' ⟨fun h=>by simp[cls] at h,fun h=>by simp[cls] at h,fun h=>by simp[cls] at h⟩) h
    | next it s=>cases s with
      | true=>exact h.elim
      | false=>exact hnext_mono (fun v PS'=>hk v PS' ⟨fun h=>by simp[cls] at h,fun h=>by simp[cls] at h,fun h=>by simp[cls] at h⟩) h
    | entry it=>exact hentry_mono (fun v hv=>hk v PS ⟨fun _=>rfl,fun h=>by simp[cls] at h,fun h=>by simp[cls] at h⟩ hv) h
    | call c=>
      obtain⟨callee,args,ts⟩:=c
      cases callee with
      | builtin b=>
        refine hbuiltin_mono (fun v PS'=>hk v PS' ?_) h
        refine⟨fun h=>absurd h hc,fun h=>?_,fun h=>?_⟩<;>cases b<;>simp[cls] at h
      | value f=>exact hcallv_mono (fun v PS'=>hk v PS' ⟨fun h=>by simp[cls] at h,fun h=>by simp[cls] at h,fun h=>by simp[cls] at h⟩) h
      | invoke r nm=>exact hinvoke_mono (fun v PS'=>hk v PS' ⟨fun h=>by simp[cls] at h,fun h=>by simp[cls] at h,fun h=>by simp[cls] at h⟩) h
    | typeAssert x xt t ok=>exact hassert_mono (fun v hv=>hk v PS ⟨fun _=>rfl,fun h=>by simp[cls] at h,fun h=>by simp[cls] at h⟩ hv) h
    | _=>first | exact h.elim | (simp[cls] at hc;done)
theorem hop_congr (h:∀x∈o.op.operands,ev fr x=ev fr' x):hop P o fr PS K=hop P o fr' PS K:=by
  obtain⟨dst,op,ty,pos,after,guard⟩:=o
  have arr:∀l:Array Operand,(∀x∈l,ev fr x=ev fr' x)→l.toList.map (ev fr)=l.toList.map (ev fr'):=fun l hl=>List.map_congr_left fun x hx=>hl x (Array.mem_toList_iff.1 hx)
  have pairs:∀ps:Array (Nat×Operand),(∀x∈ps.map (·.2),ev fr x=ev fr' x)→(ps.toList.map fun p=>(p.1,ev fr p.2))=(ps.toList.map fun p=>(p.1,ev fr' p.2)):=fun ps hp=>
    List.map_congr_left fun p hm=>by
      rw[hp p.2 (Array.mem_map.2 ⟨p,Array.mem_toList_iff.1 hm,rfl⟩)]
  have opt:∀x:Option Operand,(∀y,x=some y→ev fr y=ev fr' y)→x.map (ev fr)=x.map (ev fr'):=fun x hx=>by
    cases x with
    | none=>rfl
    | some y=>simp[hx y rfl]
  cases op<;>simp only[Op.operands] at h<;>(try simp only[hop])
  case makeMap t r=>cases r<;>rfl
  case next it s=>
    cases s with
    | true=>rfl
    | false=>have e1:ev fr it=ev fr' it:=h it (by simp);simp only[hop,e1]
  case build t ps=>rw[pairs ps (by simpa using h)]
  case buildSlice t n ps=>rw[pairs ps (by simpa using h)]
  case makeFunc fn first captured=>rw[arr first fun x hx=>h x (by simp[hx]),arr captured fun x hx=>h x (by simp[hx])]
  case call c=>
    obtain⟨callee,args,ts⟩:=c
    have ha:=arr args fun x hx=>h x (by simp[Call.operands,hx])
    cases callee with
    | builtin b=>simp only[ha]
    | value f=>
      have hf:ev fr f=ev fr' f:=h f (by simp[Call.operands])
      simp only[ha,hf]
    | invoke r nm=>
      have hf:ev fr r=ev fr' r:=h r (by simp[Call.operands])
      simp only[ha,hf]
  case slice t x lo hi mx=>
    have e1:ev fr x=ev fr' x:=h x (by cases lo<;>cases hi<;>cases mx<;>simp)
    rw[e1,opt lo fun y hy=>h y (by subst hy;simp),opt hi fun y hy=>h y (by subst hy;cases lo<;>simp),opt mx fun y hy=>h y (by subst hy;cases lo<;>cases hi<;>simp)]
  all_goals (first | rfl | (simp_all;done))
end
end Go.Eng
namespace Go.Eng
open Go
variable [Toks]
/-- A call that reads the pieces,and leaves them. -/
def Reads (P:Program) (f:FuncId) (args:List HV) (PS:PL) (res:HV):Prop:=∀PS',Pre PS PS'→HCall P f args PS' fun x PS''=>x=res∧PS''=PS'
theorem Pre.trans {PS PS' PS'':PL} (h:Pre PS PS') (k:Pre PS' PS''):Pre PS PS'':=fun n=>by
  rcases h n with h | h
  · exact .inl h
  · rcases k n with k | k
    · exact .inl (h▸k)
    · exact .inr (k.trans h)
/-- Which calls only compute (0),only read (2). -/
abbrev Pu:=List (Nat×Nat)
def callCls (pu:Pu) (o:Oper):Option Nat:=
  match o.op with
  | .call ⟨.value (.func g),_,_⟩=>(match pu.lookup g with | some 0=>some 0 | some _=>some 2 | none=>none)
  | _=>none
def clsD (pu:Pu) (o:Oper):Nat:=(callCls pu o).getD (cls o)
def hcallP (P:Program) (c:Nat) (args:List HV) (PS:PL) (K:HV→Prop):Option (FuncId×List HV×List HV)→Prop
  | some (g,f,cp)=>callable P g=true∧(match c with
    | 0=>∃x,Pure P g (f++(args++cp)) x∧K x
    | _=>∃x,Reads P g (f++(args++cp)) PS x∧K x)
  | none=>False
def hcallO (P:Program) (c:Nat) (o:Oper) (fr:Fr) (PS:PL) (K:HV→Prop):Prop:=
  match o.op with
  | .call ⟨.value f,args,_⟩=>hcallP P c (args.toList.map (ev fr)) PS K (hfun (ev fr f))
  | _=>False
def hlenO (P:Program) (o:Oper) (fr:Fr) (PS:PL) (K:HV→Prop):Prop:=
  match o.op with
  | .call ⟨.builtin .len,args,ts⟩=>(match ts.toList,args.toList.map (ev fr) with | [t],[x]=>hlenP P PS t x K | _,_=>False)
  | _=>hval P o fr PS K
def hval1 (P:Program) (pu:Pu) (o:Oper) (fr:Fr) (PS:PL) (K:HV→Prop):Prop:=
  match callCls pu o with
  | some c=>hcallO P c o fr PS K
  | none=>hlenO P o fr PS K
def hopD (P:Program) (pu:Pu) (o:Oper) (fr:Fr) (PS:PL) (K:HV→PL→Prop):Prop:=
  match callCls pu o with
  | some c=>hcallO P c o fr PS (fun v=>K v PS)
  | none=>hop P o fr PS K
section
variable {P:Program} {pu:Pu} {PS PS':PL} {fr fr':Fr} {o:Oper} {K K':HV→PL→Prop}
theorem callCls_some {c:Nat} (h:callCls pu o=some c):(c=0∨c=2)∧∃g args ts,o.op=.call ⟨.value (.func g),args,ts⟩:=by
  unfold callCls at h
  split at h
  · rename_i g args ts he
    refine⟨?_,g,args,ts,he⟩
    split at h<;>cases h<;>simp
  · cases h
theorem hcallP_mono {c:Nat} {args:List HV} {q:Option (FuncId×List HV×List HV)} {K K':HV→Prop} (hk:∀v,K v→K' v) (h:hcallP P c args PS K q):hcallP P c args PS K' q:=by
  unfold hcallP at*
  split at h
  · refine⟨h.1,?_⟩
    have h2:=h.2
    split at h2<;>obtain⟨x,h3,h4⟩:=h2<;>exact⟨x,h3,hk _ h4⟩
  · exact h
theorem hcallO_mono {c:Nat} {K K':HV→Prop} (hk:∀v,K v→K' v) (h:hcallO P c o fr PS K):hcallO P c o fr PS K':=by
  unfold hcallO at*
  split at h
  · exact hcallP_mono hk h
  · exact h
theorem hcallO_wit {c:Nat} {K:HV→Prop} (h:hcallO P c o fr PS K):∃z,hcallO P c o fr PS (fun v=>v=z)∧K z:=by
  unfold hcallO hcallP at*
  split at h
  · split at h
    · obtain⟨h1,h2⟩:=h
      split at h2<;>obtain⟨x,h3,h4⟩:=h2<;>exact⟨x,⟨h1,x,h3,rfl⟩,h4⟩
    · exact h.elim
  · exact h.elim
theorem hcallO_pre {c:Nat} {K:HV→Prop} (hp:c=0∨Pre PS PS') (h:hcallO P c o fr PS K):hcallO P c o fr PS' K:=by
  unfold hcallO hcallP at*
  split at h
  · split at h
    · refine⟨h.1,?_⟩
      have h2:=h.2
      rcases c with _ | c
      · exact h2
      · obtain⟨x,h3,h4⟩:=h2
        exact⟨x,fun PS'' hq=>h3 PS'' ((hp.resolve_left (by omega)).trans hq),h4⟩
    · exact h
  · exact h
theorem hcallO_hop {c:Nat} (h:hcallO P c o fr PS (fun v=>K v PS)):hop P o fr PS K:=by
  obtain⟨dst,op,ty,pos,after,guard⟩:=o
  unfold hcallO at h
  split at h
  · rename_i f args ts he
    simp only at he
    subst he
    simp only[hop]
    generalize hfun (ev fr f)=q at h
    cases q with
    | none=>exact h.elim
    | some q=>
      obtain⟨g,ff,cp⟩:=q
      refine⟨h.1,?_⟩
      have h2:=h.2
      rcases c with _ | c
      · obtain⟨x,h3,h4⟩:=h2;exact h3.call h4
      · obtain⟨x,h3,h4⟩:=h2;exact(h3 PS (Pre.refl PS)).mono (by rintro x PS' ⟨rfl,rfl⟩;exact h4)
  · exact h.elim
theorem hopD_hop (h:hopD P pu o fr PS K):hop P o fr PS K:=by
  unfold hopD at h
  split at h
  · exact hcallO_hop h
  · exact h
theorem hlenP_hlen {t:TypeId} {x:HV} {K:HV→Prop} (h:hlenP P PS t x K):hlen P PS t x K:=by
  obtain⟨z,h1,h2⟩:=hlen_wit h
  exact hlen_mono (fun v hv=>by subst hv;exact h2) h1
theorem hlenO_hval {K:HV→Prop} (h:hlenO P o fr PS K):hval P o fr PS K:=by
  obtain⟨dst,op,ty,pos,after,guard⟩:=o
  unfold hlenO at h
  split at h
  · rename_i args ts he
    simp only at he
    subst he
    simp only[hval]
    generalize ts.toList=tl at h
    generalize List.map (ev fr) args.toList=xl at h
    split at h
    · exact hlenP_hlen h
    · exact h.elim
  · exact h
theorem hval1_hopD (hc:clsD pu o≤2) (h:hval1 P pu o fr PS (fun v=>K v PS)):hopD P pu o fr PS K:=by
  unfold hval1 at h
  unfold hopD
  unfold clsD at hc
  split at h
  · exact h
  · rename_i hn
    rw[hn] at hc
    rw[hop_val hc]
    exact hlenO_hval h
theorem hopD_mono (hk:∀v PS',Kept (clsD pu o) PS PS'→K v PS'→K' v PS') (h:hopD P pu o fr PS K):hopD P pu o fr PS K':=by
  unfold hopD at*
  unfold clsD at hk
  split at h
  · rename_i c hc
    rw[hc] at hk
    obtain⟨hc2,_⟩:=callCls_some hc
    exact hcallO_mono (fun v=>hk v PS ⟨fun _=>rfl,fun _=>.refl PS,fun _=>(Pre.refl PS).shp⟩) h
  · rename_i hn
    rw[hn] at hk
    exact hop_mono hk h
theorem hlenP_wit {t:TypeId} {x:HV} {K:HV→Prop} (h:hlenP P PS t x K):∃z,hlenP P PS t x (fun v=>v=z)∧K z:=by
  unfold hlenP at*
  split at h<;>rename_i hu
  · cases x with
    | str s=>exact⟨_,rfl,h⟩
    | stok i=>
      simp only at h ⊢
      cases hj:Toks.slen i with
      | none=>rw[hj] at h;exact h.elim
      | some j=>rw[hj] at h;exact⟨_,rfl,h⟩
    | _=>exact h.elim
  · cases x<;>first | exact⟨_,rfl,h⟩ | exact⟨_,⟨h.1,rfl⟩,h.2⟩ | exact hnlen_wit h | exact h.elim
  · exact⟨_,rfl,h⟩
  · split at h
    · exact⟨_,rfl,h⟩
    · exact h.elim
  · exact h.elim
theorem hlenP_mono {t:TypeId} {x:HV} {K K':HV→Prop} (hk:∀v,K v→K' v) (h:hlenP P PS t x K):hlenP P PS t x K':=by
  unfold hlenP at*
  split at h<;>rename_i hu
  · cases x with
    | str s=>exact hk _ h
    | stok i=>
      simp only at h ⊢
      cases hj:Toks.slen i with
      | none=>rw[hj] at h;exact h.elim
      | some j=>rw[hj] at h;exact hk _ h
    | _=>exact h
  · cases x<;>first | exact hk _ h | exact⟨h.1,hk _ h.2⟩ | exact hnlen_mono hk h | exact h
  · exact hk _ h
  · split at h
    · exact hk _ h
    · exact h
  · exact h
theorem hlenP_shp (hs:Shp PS PS') {t:TypeId} {x:HV} {K:HV→Prop} (h:hlenP P PS t x K):hlenP P PS' t x K:=by
  unfold hlenP at*
  split at h<;>rename_i hu
  · cases x<;>exact h
  · cases x<;>first | exact h | exact⟨hs.ver h.1,h.2⟩
  · exact h
  · split at h
    · exact h
    · exact h
  · exact h
theorem hlenO_mono {K K':HV→Prop} (hk:∀v,K v→K' v) (h:hlenO P o fr PS K):hlenO P o fr PS K':=by
  unfold hlenO at*
  split at h
  · split at h
    · exact hlenP_mono hk h
    · exact h
  · exact hval_mono hk h
theorem hval1_mono {K K':HV→Prop} (hk:∀v,K v→K' v) (h:hval1 P pu o fr PS K):hval1 P pu o fr PS K':=by
  unfold hval1 at*
  split at h
  · exact hcallO_mono hk h
  · exact hlenO_mono hk h
theorem hval_wit (hn:∀args ts,o.op≠ .call ⟨.builtin .len,args,ts⟩) {K:HV→Prop} (h:hval P o fr PS K):∃z,hval P o fr PS (fun v=>v=z)∧K z:=by
  obtain⟨dst,op,ty,pos,after,guard⟩:=o
  cases op with
  | move x=>exact⟨_,rfl,h⟩
  | assign x=>exact⟨_,rfl,h⟩
  | pick c x y=>exact hpick_wit h
  | load t x=>exact hload_wit h
  | nilCheck x=>exact hnil_wit h
  | binOp op t x y _=>exact hbin_wit h
  | unOp op _ x=>exact hun_wit h
  | convert s d x=>exact hconvert_wit h
  | fieldAddr s x f=>exact hfield_wit h
  | field t x f=>exact hfieldv_wit h
  | indexAddr t x i=>exact hindexAddr_wit h
  | index t x i=>exact hindex_wit h
  | extract x i=>exact hext_wit h
  | slice t x l h' m=>exact hslice_wit h
  | build t ps=>exact hbuild_wit h
  | buildSlice t n ps=>exact hbsl_wit h
  | makeInterface t x=>exact hmki_wit h
  | lookup t m x ok=>exact hlookup_wit h
  | makeFunc fn f c=>exact⟨_,rfl,h⟩
  | call c=>
    obtain⟨callee,args,ts⟩:=c
    cases callee with
    | builtin b=>
      cases b<;>first | exact h.elim | skip
      · exact absurd rfl (hn args ts)
      · exact hminmax_wit h
      · exact hminmax_wit h
    | _=>exact h.elim
  | _=>exact h.elim
theorem hval1_wit {K:HV→Prop} (h:hval1 P pu o fr PS K):∃z,hval1 P pu o fr PS (fun v=>v=z)∧K z:=by
  unfold hval1 at*
  split at h
  · exact hcallO_wit h
  · unfold hlenO at*
    split at h
    · split at h
      · exact hlenP_wit h
      · exact h.elim
    · rename_i hn
      exact hval_wit (fun args ts he=>hn args ts he) h
/-- May an operation of class a be done ahead of one of class c. -/
def compat (a c:Nat):Bool:=c≤2 || a == 0 || (a == 1&&c≤4) || c == 3
theorem hval1_kept {c:Nat} (hc:clsD pu o≤2) (hcomp:compat (clsD pu o) c=true) (hk:Kept c PS PS') {K:HV→Prop} (h:hval1 P pu o fr PS K):hval1 P pu o fr PS' K:=by
  by_cases h2:c≤2
  · rw[hk.1 h2];exact h
  have h34:clsD pu o=0∨(clsD pu o=1∧Shp PS PS')∨Pre PS PS':=by
    unfold compat at hcomp
    simp only[Bool.or_eq_true,Bool.and_eq_true,decide_eq_true_eq,beq_iff_eq] at hcomp
    rcases hcomp with ((h' | h') | h') | h'
    · omega
    · exact .inl h'
    · rcases (by omega:c=3∨c=4) with h3 | h3
      · exact .inr (.inr (hk.2.1 h3))
      · exact .inr (.inl ⟨h'.1,hk.2.2 h3⟩)
    · exact .inr (.inr (hk.2.1 h'))
  unfold hval1 at*
  unfold clsD at hc h34
  cases hcc:callCls pu o with
  | some d=>
    rw[hcc] at h h34
    obtain⟨hd,_⟩:=callCls_some hcc
    refine hcallO_pre ?_ h
    rcases h34 with h' | h' | h'
    · exact .inl h'
    · have:=h'.1;simp only[Option.getD_some] at this;omega
    · exact .inr h'
  | none=>
    rw[hcc] at h h34 hc
    simp only[Option.getD_none] at h34 hc
    simp only at h ⊢
    unfold hlenO at*
    split at h
    · rename_i args ts he
      have:cls o=1:=by unfold cls;simp[he]
      split at h
      · rcases h34 with h' | h' | h'
        · omega
        · exact hlenP_shp h'.2 h
        · exact hlenP_shp h'.shp h
      · exact h
    · rcases h34 with h' | h' | h'
      · exact hval_free h' h
      · exact hval_shp h'.2 (by omega) h
      · exact hval_pre h' hc h
theorem ev_put {dst:Option Tmp} {v:HV} {x:Operand} (h:∀d,dst=some d→x≠ .tmp d):ev (hput fr dst v) x=ev fr x:=by
  cases dst with
  | none=>rfl
  | some d=>
    cases x with
    | tmp t=>
      have hne:d≠t:=fun e=>h d rfl (e▸rfl)
      simp[ev,get,hput,List.getD,List.getElem?_set_ne hne]
    | _=>rfl
theorem hput_comm (fr:Fr) {x y:Option Tmp} (v u:HV) (h:∀d,x=some d→y≠some d):hput (hput fr x v) y u=hput (hput fr y u) x v:=by
  cases x with
  | none=>rfl
  | some d=>
    cases y with
    | none=>rfl
    | some e=>
      have hne:d≠e:=fun he=>h d rfl (he▸rfl)
      simp[hput,List.set_comm _ _ hne]
theorem hval_hop {K:HV→Prop} (h:cls o≤2):hval P o fr PS K=hop P o fr PS (fun v _=>K v):=(hop_val h (fun v _=>K v)).symm
theorem hcallO_congr {c:Nat} {K:HV→Prop} (h:∀x∈o.op.operands,ev fr x=ev fr' x):hcallO P c o fr PS K=hcallO P c o fr' PS K:=by
  obtain⟨dst,op,ty,pos,after,guard⟩:=o
  cases op<;>simp only[hcallO]
  case call cl=>
    obtain⟨callee,args,ts⟩:=cl
    cases callee with
    | value f=>
      have hf:ev fr f=ev fr' f:=h f (by simp[Op.operands,Call.operands])
      have ha:args.toList.map (ev fr)=args.toList.map (ev fr'):=List.map_congr_left fun x hx=>h x (by simp[Op.operands,Call.operands];right;exact Array.mem_toList_iff.1 hx)
      simp only[hf,ha]
    | _=>rfl
theorem hopD_congr (h:∀x∈o.op.operands,ev fr x=ev fr' x):hopD P pu o fr PS K=hopD P pu o fr' PS K:=by
  unfold hopD
  split
  · exact hcallO_congr h
  · exact hop_congr h
theorem hval1_congr (hc:clsD pu o≤2) {K:HV→Prop} (h:∀x∈o.op.operands,ev fr x=ev fr' x):hval1 P pu o fr PS K=hval1 P pu o fr' PS K:=by
  unfold hval1
  unfold clsD at hc
  split
  · exact hcallO_congr h
  · rename_i hn
    rw[hn] at hc
    simp only[Option.getD_none] at hc
    unfold hlenO
    split
    · rename_i args ts he
      have ha:args.toList.map (ev fr)=args.toList.map (ev fr'):=List.map_congr_left fun x hx=>h x (by simp[he,Op.operands,Call.operands];exact Array.mem_toList_iff.1 hx)
      rw[ha]
    · rw[hval_hop hc,hval_hop hc];exact hop_congr h
end
end Go.Eng
namespace Go.Eng
open Go
variable [Toks]
/-- Under a guard. -/
def hgd (ops:Array Oper) (o:Oper) (fr:Fr) (A B:Prop):Prop:=
  match o.guard with
  | none=>A
  | some (j,want)=>hguard want A B (guardVal ops fr j)
def hstep (P:Program) (pu:Pu) (ops:Array Oper) (i:Nat) (K:Fr→PL→Prop) (fr:Fr) (PS:PL):Prop:=
  match ops[i]? with
  | none=>K fr PS
  | some o=>hgd ops o fr (hopD P pu o fr PS fun v PS'=>K (hput fr o.dst v) PS') (K (hput fr o.dst (.cst undef)) PS)
abbrev Chk:=Nat→Fr→PL→Prop
def hany (P:Program) (pu:Pu) (ops:Array Oper) (chk:Chk) (K:Fr→PL→Prop):Nat→Array Bool→Fr→PL→Prop
  | 0,listed,fr,PS=>Region.ready .any ops listed=[]∧K fr PS
  | n+1,listed,fr,PS=>(Region.ready .any ops listed=[]→K fr PS)∧
      ∀i∈Region.ready .any ops listed,hstep P pu ops i (fun fr PS=>chk i fr PS∧hany P pu ops chk K n (listed.setIfInBounds i true) fr PS) fr PS
/-- A value is still what it was. -/
def hsame (o:Oper) (fr:Fr) (v:HV):Prop:=
  match o.dst with
  | some d=>v=get fr d
  | none=>True
def hv1 (P:Program) (pu:Pu) (ops:Array Oper) (o:Oper) (fr:Fr) (PS:PL) (K:HV→Prop):Prop:=hgd ops o fr (hval1 P pu o fr PS K) (K (.cst undef))
def hre (P:Program) (pu:Pu) (ops:Array Oper) (i:Nat) (fr:Fr) (PS:PL):Prop:=
  match ops[i]? with
  | none=>True
  | some o=>hv1 P pu ops o fr PS (hsame o fr)
section
variable {P:Program} {pu:Pu} {ops:Array Oper} {PS PS':PL} {fr fr':Fr} {o:Oper} {chk chk':Chk} {K:Fr→PL→Prop}
theorem hgd_mono {A B A' B':Prop} (ha:A→A') (hb:B→B') (h:hgd ops o fr A B):hgd ops o fr A' B':=by
  unfold hgd at*
  split at h
  · exact ha h
  · rename_i j want _
    generalize guardVal ops fr j=u at*
    cases u with
    | bool b=>exact⟨fun e=>ha (h.1 e),fun e=>hb (h.2 e)⟩
    | cst v=>cases v<;>first | exact h.elim | exact hb h
    | _=>exact h.elim
theorem hstep_mono {i:Nat} {K K':Fr→PL→Prop} (hk:∀fr PS,K fr PS→K' fr PS) (h:hstep P pu ops i K fr PS):hstep P pu ops i K' fr PS:=by
  unfold hstep at*
  split at h
  · exact hk _ _ h
  · exact hgd_mono (hopD_mono fun v PS' _=>hk _ _) (hk _ _) h
theorem hany_chk (hc:∀j fr PS,chk j fr PS→chk' j fr PS):∀(n:Nat) (listed:Array Bool) (fr:Fr) (PS:PL),hany P pu ops chk K n listed fr PS→hany P pu ops chk' K n listed fr PS
  | 0,_,_,_,h=>h
  | n+1,_,_,_,h=>⟨h.1,fun i hi=>hstep_mono (fun fr PS hk=>⟨hc _ _ _ hk.1,hany_chk hc n _ fr PS hk.2⟩) (h.2 i hi)⟩
theorem hany_done {n:Nat} {listed:Array Bool} (hr:Region.ready .any ops listed=[]) (h:K fr PS):hany P pu ops chk K n listed fr PS:=by
  cases n with
  | zero=>exact⟨hr,h⟩
  | succ n=>exact⟨fun _=>h,fun i hi=>by rw[hr] at hi;cases hi⟩
theorem ev_looks {dst:Option Tmp} {v:HV} (h:∀d,dst=some d→d∉o.looksAt ops):∀x∈o.op.operands,ev (hput fr dst v) x=ev fr x:=fun x hx=>
  ev_put fun d hd hxd=>h d hd (by
    subst hxd
    exact List.mem_append_left _ (List.mem_filterMap.2 ⟨.tmp d,by simpa using hx,rfl⟩))
theorem guard_looks {dst:Option Tmp} {v:HV} {j:Nat} {want:Bool} (hg:o.guard=some (j,want)) (h:∀d,dst=some d→d∉o.looksAt ops):guardVal ops (hput fr dst v) j=guardVal ops fr j:=by
  cases dst with
  | none=>rfl
  | some d=>
    unfold guardVal
    cases ht:(ops[j]?).bind (·.dst) with
    | none=>rfl
    | some t=>
      have hne:d≠t:=fun e=>h d rfl (by subst e;simp[Oper.looksAt,hg,ht])
      simp[get,hput,List.getD,List.getElem?_set_ne hne]
theorem hgd_put {dst:Option Tmp} {v:HV} {A B:Prop} (h:∀d,dst=some d→d∉o.looksAt ops):hgd ops o (hput fr dst v) A B=hgd ops o fr A B:=by
  unfold hgd
  split
  · rfl
  · rename_i j want hg;rw[guard_looks hg h]
theorem hopD_put {dst:Option Tmp} {v:HV} {K:HV→PL→Prop} (h:∀d,dst=some d→d∉o.looksAt ops):hopD P pu o (hput fr dst v) PS K=hopD P pu o fr PS K:=hopD_congr (ev_looks h)
theorem hval1_put {dst:Option Tmp} {v:HV} {K:HV→Prop} (hc:clsD pu o≤2) (h:∀d,dst=some d→d∉o.looksAt ops):hval1 P pu o (hput fr dst v) PS K=hval1 P pu o fr PS K:=hval1_congr hc (ev_looks h)
theorem hv1_put {dst:Option Tmp} {v:HV} {K:HV→Prop} (hc:clsD pu o≤2) (h:∀d,dst=some d→d∉o.looksAt ops):hv1 P pu ops o (hput fr dst v) PS K=hv1 P pu ops o fr PS K:=by
  unfold hv1;rw[hgd_put h,hval1_put hc h]
theorem hv1_mono {K K':HV→Prop} (hk:∀v,K v→K' v) (h:hv1 P pu ops o fr PS K):hv1 P pu ops o fr PS K':=hgd_mono (hval1_mono hk) (hk _) h
theorem hv1_kept {c:Nat} (hc:clsD pu o≤2) (hcomp:compat (clsD pu o) c=true) (hk:Kept c PS PS') {K:HV→Prop} (h:hv1 P pu ops o fr PS K):hv1 P pu ops o fr PS' K:=hgd_mono (hval1_kept hc hcomp hk) id h
theorem hv1_wit {K:HV→Prop} (h:hv1 P pu ops o fr PS K):∃z,hv1 P pu ops o fr PS (fun v=>v=z)∧K z:=by
  unfold hv1 hgd at*
  split at h
  · exact hval1_wit h
  · rename_i j want _
    generalize guardVal ops fr j=u at*
    cases u with
    | bool b=>
      by_cases hb:b=want
      · obtain⟨z,h1,h2⟩:=hval1_wit (h.1 hb)
        exact⟨z,⟨fun _=>h1,fun hn=>absurd hb hn⟩,h2⟩
      · exact⟨.cst undef,⟨fun hn=>absurd hn hb,fun _=>rfl⟩,h.2 hb⟩
    | cst v=>cases v<;>first | exact h.elim | exact⟨.cst undef,rfl,h⟩
    | _=>exact h.elim
/-- What is listed waits for what is listed;but for X,which are listed from the beginning,and for which nothing else waits. -/
structure DownX (X:Nat→Bool) (ops:Array Oper) (listed:Array Bool):Prop where
  sub:∀j,X j=true→listed.getD j true=true
  out:∀(j:Nat) (o:Oper),ops[j]? =some o→X j=false→∀e∈o.after,Region.binds .any e=true→X e.on=false
  dn:∀(j:Nat) (o:Oper),ops[j]? =some o→X j=false→listed.getD j false=true→∀e∈o.after,Region.binds .any e=true→listed.getD e.on false=true
/-- These wait for i,through others. -/
def Waits (ops:Array Oper) (i:Nat) (R:Nat→Bool):Prop:=∀(X:Nat→Bool) (listed:Array Bool),DownX X ops listed→∀(j:Nat) (o:Oper),ops[j]? =some o→X j=false→(∀e∈o.after,Region.binds .any e=true→listed.getD e.on false=true)→R j=true→listed.getD i false=true
theorem DownX.set {X:Nat→Bool} {i:Nat} {listed:Array Bool} (hd:DownX X ops listed) (hi:i∈Region.ready .any ops listed):DownX X ops (listed.setIfInBounds i true):=by
  refine⟨fun j hj=>?_,hd.out,?_⟩
  · by_cases hij:i=j
    · subst hij
      simp only[Array.getD_eq_getD_getElem?,Array.getElem?_setIfInBounds]
      by_cases h:i<listed.size<;>simp[h]
    · rw[getD_set_ne true hij];exact hd.sub j hj
  intro j o ho hX hl e he hb
  by_cases hij:i=j
  · subst hij
    obtain⟨_,o',ho',hall⟩:=mem_ready.1 hi
    rw[ho] at ho';cases ho'
    exact getD_set_true (hall e he hb)
  · rw[getD_set_ne false hij] at hl
    exact getD_set_true (hd.dn j o ho hX hl e he hb)
/-- What only computes may be done first. -/
theorem hany_first {X:Nat→Bool} {i:Nat} {oi:Oper} {S:List Nat} {z:HV} {R:Nat→Bool} (hR:Waits ops i R) (hi:ops[i]? =some oi) (hc:clsD pu oi≤2) (hinv:∀j fr PS v,chk j (hput fr oi.dst v) PS→chk j fr PS) (hchi:∀fr PS,chk i fr PS) (hself:∀j∈S,∀d,oi.dst=some d→d∉oi.looksAt ops):
    ∀(n:Nat) (listed:Array Bool) (fr:Fr) (PS:PL),DownX X ops listed→
      (∀j oj,ops[j]? =some oj→j≠i→listed.getD j true=false→R j=true∨(oi.apart ops oj=true∧(compat (clsD pu oi) (clsD pu oj)=true∨j∈S)))→
      i∈Region.ready .any ops listed→hv1 P pu ops oi fr PS (fun v=>hput fr oi.dst v=hput fr oi.dst z)→
      hany P pu ops (fun j fr PS=>chk j fr PS∧(j∈S→hre P pu ops i fr PS)) K n (listed.setIfInBounds i true) (hput fr oi.dst z) PS→hany P pu ops chk K (n+1) listed fr PS:=by
  intro n
  induction n with
  | zero=>
    intro listed fr PS hd hap hr hv H
    refine⟨fun h0=>(by rw[h0] at hr;cases hr),fun j hj=>?_⟩
    by_cases hji:j=i
    · subst hji
      unfold hstep
      simp only[hi]
      refine hgd_mono (fun hh=>?_) (fun hh=>?_) hv
      · exact hval1_hopD hc (hval1_mono (fun v hv=>by rw[hv];exact⟨hchi _ _,H⟩) hh)
      · rw[hh];exact⟨hchi _ _,H⟩
    · have:=ready_mono hj hji
      rw[H.1] at this;cases this
  | succ n ih=>
    intro listed fr PS hd hap hr hv H
    refine⟨fun h0=>(by rw[h0] at hr;cases hr),fun j hj=>?_⟩
    by_cases hji:j=i
    · subst hji
      have H':=hany_chk (chk':=chk) (fun j fr PS h=>h.1) _ _ _ _ H
      unfold hstep
      simp only[hi]
      refine hgd_mono (fun hh=>?_) (fun hh=>?_) hv
      · exact hval1_hopD hc (hval1_mono (fun v hv=>by rw[hv];exact⟨hchi _ _,H'⟩) hh)
      · rw[hh];exact⟨hchi _ _,H'⟩
    · have Hj:=H.2 j (ready_mono hj hji)
      obtain⟨hl0,oj,hoj,hall⟩:=mem_ready.1 hj
      obtain⟨hi0,_⟩:=mem_ready.1 hr
      have hlt:i<ops.size:=(Array.getElem?_eq_some_iff.1 hi).1
      have hcond:=hap j oj hoj hji hl0
      have hnr:¬R j=true:=fun h=>by
        have hXj:X j=false:=by
          cases hx:X j with
          | false=>rfl
          | true=>have:=hd.sub j hx;rw[hl0] at this;cases this
        have:=hR X listed hd j oj hoj hXj hall h
        have hi0':listed.getD i false=false:=by
          simp only[Array.getD_eq_getD_getElem?] at hi0 ⊢
          cases hx:listed[i]? with
          | none=>rfl
          | some b=>rw[hx] at hi0;simpa using hi0
        rw[hi0'] at this;cases this
      obtain⟨hapart,hcs⟩:=hcond.resolve_left hnr
      obtain⟨h1,h2,h3⟩:=Oper.apart_spec hapart
      have h2':∀d,oj.dst=some d→oi.dst≠some d:=fun d hd hn=>h2 d hn hd
      have step:∀(v:HV) (PS':PL),Kept (clsD pu oj) PS PS'→
          ((chk j (hput (hput fr oi.dst z) oj.dst v) PS'∧(j∈S→hre P pu ops i (hput (hput fr oi.dst z) oj.dst v) PS'))∧
            hany P pu ops (fun j fr PS=>chk j fr PS∧(j∈S→hre P pu ops i fr PS)) K n ((listed.setIfInBounds i true).setIfInBounds j true) (hput (hput fr oi.dst z) oj.dst v) PS')→
          chk j (hput fr oj.dst v) PS'∧hany P pu ops chk K (n+1) (listed.setIfInBounds j true) (hput fr oj.dst v) PS':=by
        rintro v PS' hkept ⟨⟨hk1,hk2⟩,hk3⟩
        rw[hput_comm fr z v h2] at hk1 hk2 hk3
        refine⟨hinv _ _ _ _ hk1,ih _ _ _ (hd.set hj) ?_ (ready_mono hr (Ne.symm hji)) ?_ ?_⟩
        · intro k ok hk hki hkl
          refine hap k ok hk hki ?_
          by_cases hjk:j=k
          · subst hjk
            have hsz:j<listed.size:=by
              rcases Nat.lt_or_ge j listed.size with h' | h'
              · exact h'
              · simp[Array.getElem?_eq_none h'] at hl0
            simp[hsz] at hkl
          · rwa [getD_set_ne true hjk] at hkl
        · rcases hcs with hcomp | hS
          · rw[hv1_put hc h3]
            refine hv1_kept hc hcomp hkept (hv1_mono (fun u hu=>?_) hv)
            rw[hput_comm fr v u h2',hu,hput_comm fr v z h2']
          · have hh:=hk2 hS
            unfold hre at hh
            simp only[hi] at hh
            by_cases hin:∃d,oi.dst=some d∧d<fr.length
            · obtain⟨d,hd',hdl⟩:=hin
              have hl1:d<(hput fr oj.dst v).length:=by cases oj.dst<;>simpa [hput] using hdl
              rw[hv1_put hc (hself j hS)] at hh
              refine hv1_mono (fun u hu=>?_) hh
              unfold hsame at hu
              rw[hd'] at hu ⊢
              simp only[hput] at hu ⊢
              have:get ((hput fr oj.dst v).set d z) d=z:=by simp[get,List.getD,hl1]
              unfold hput at this
              rw[hu,this]
            · have hset:∀(f:Fr) u,f.length=fr.length→hput f oi.dst u=f:=fun f u hf=>by
                cases hdd:oi.dst with
                | none=>rfl
                | some d=>
                  have:f.length≤d:=by rw[hf];exact Nat.le_of_not_lt fun h'=>hin ⟨d,hdd,h'⟩
                  simp[hput,List.set_eq_of_length_le this]
              have hlen:(hput fr oj.dst v).length=fr.length:=by cases oj.dst<;>simp[hput]
              rw[hset _ z hlen] at hh
              exact hv1_mono (fun u _=>by rw[hset _ u hlen,hset _ z hlen]) hh
        · rwa [Array.setIfInBounds_comm _ _ (Ne.symm hji)] at hk3
      unfold hstep at Hj ⊢
      simp only[hoj] at Hj ⊢
      rw[hgd_put h1,hopD_put h1] at Hj
      exact hgd_mono (hopD_mono fun v PS' hk=>step v PS' hk) (step (.cst undef) PS ⟨fun _=>rfl,fun _=>.refl PS,fun _=>(Pre.refl PS).shp⟩) Hj
end
end Go.Eng
