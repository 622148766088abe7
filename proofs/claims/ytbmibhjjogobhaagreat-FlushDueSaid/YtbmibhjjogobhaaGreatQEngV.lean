/-
Operations: more of what follows gives more of what they mean; what they leave of the pieces, by class; they hang on their operands alone.
No conditions.
-/
import Derived.Test.YtbmibhjjogobhaaGreatQEngR
import Derived.Orders
set_option linter.unusedSectionVars false
set_option linter.unusedSimpArgs false
set_option linter.unusedVariables false
namespace Go.Eng
open Go
variable [zB]
/-- What an operation of a class leaves. -/
def Kept (c:Nat) (PS PS':PL):Prop:=(c≤2→PS'=PS)∧(c=3→Pre PS PS')∧(c=4→Shp PS PS')
section
variable {P:Program} {PS PS':PL} {fr fr':Fr} {o:Oper} {K K':HV→PL→Prop}
theorem KW (PS:PL) (p:zC):Pre PS (PS++[p]):=fun n=>by
 unfold zA
 by_cases h:n<PS.length
 ·right;simp[List.getD,List.getElem?_append_left h]
 ·left;simp[List.getD,List.getElem?_eq_none (Nat.le_of_not_lt h)]
theorem zQg {n i k:Nat} {ver sz:Nat} {E:List (List HV)} {opn:Bool} {l c:List HV} (h:zA PS n=.arr ver sz E opn) (hi:E[i]? =some l) (hk:k+c.length≤l.length):
  Shp PS (PS.set n (.arr ver sz (E.set i (zP k c l)) opn)):=by
 intro m ver' sz' E' opn' hm
 by_cases hn:m=n
 ·subst hn
  rw[h] at hm;cases hm
  have hlt:m<PS.length:=by
   rcases Nat.lt_or_ge m PS.length with h' | h'
   ·exact h'
   ·unfold zA at h;simp[List.getD,List.getElem?_eq_none h'] at h
  refine⟨E.set i (zP k c l),?_,by simp,?_⟩
  ·unfold zA;simp[List.getD,hlt]
  ·intro j lj hj
   by_cases hij:j=i
   ·subst hij
    rw[hi] at hj;cases hj
    have hlt2:j<E.length:=(List.getElem?_eq_some_iff.1 hi).1
    refine⟨zP k c l,by simp[hlt2],?_⟩
    unfold zP;simp;omega
   ·exact⟨lj,by rw[List.getElem?_set_ne (Ne.symm hij)];exact hj,rfl⟩
 ·refine⟨E',?_,rfl,fun j lj hj=>⟨lj,hj,rfl⟩⟩
  unfold zA at*
  simpa [List.getD,List.getElem?_set_ne (Ne.symm hn)] using hm
theorem zA6 {t:TypeId} (hk:∀v PS',Pre PS PS'→K v PS'→K' v PS') (h:uY P t PS K):uY P t PS K':=by
 unfold uY at*;split at h
 ·exact hk _ _ (KW _ _) h
 ·exact h
theorem zQB {x:HV} (hk:∀v PS',Pre PS PS'→K v PS'→K' v PS') (h:kL x PS K):kL x PS K':=
 VB (fun _ h=>hk _ _ (KW _ _) h) h
theorem zMr {l c:HV} {q:Option (Nat×Nat×List HV)} (hk:∀v PS',Pre PS PS'→K v PS'→K' v PS') (h:jr PS l c K q):jr PS l c K' q:=by
 unfold jr at*;split at h
 ·unfold XF at*;split at h
  ·obtain⟨h1,h2,h3,h4,h5⟩:=h;exact⟨h1,h2,h3,h4,hk _ _ (KW _ _) h5⟩
  ·exact h
 ·exact h
theorem zHp {a x:HV} {q:Option (Bool×Nat)} {K K':PL→Prop} (hk:∀PS',Shp PS PS'→K PS'→K' PS') (h:uI PS a x K q):uI PS a x K' q:=by
 unfold uI at*;split at h
 ·refine VB ?_ h
  rintro c ⟨h1,h2⟩
  refine⟨h1,?_⟩
  split at h2
  ·split at h2
   ·rename_i hg
    obtain⟨h3,l,h4,h5,h6⟩:=h2
    subst h3
    exact⟨rfl,l,h4,h5,hk _ (zQg hg h4 (by omega)) h6⟩
   ·exact h2
  ·exact h2
 ·exact h
theorem Qv {K K':List (List HV)→Prop} {s:Nat} {x:HV} (hk:∀v,K v→K' v) (h:yA PS s x K):yA PS s x K':=by
 unfold yA at*;split at h
 ·exact⟨h.1,hk _ h.2⟩
 ·exact Gx hk h
theorem Qt {s b:Nat} {x:HV} {N:List (List HV)} (hk:∀v PS',K v PS'→K' v PS') (h:qa PS s b x N K):qa PS s b x N K':=by
 unfold qa at*;split at h
 ·obtain⟨h1,h2,h3,h4,h5⟩:=h;exact⟨h1,h2,h3,h4,hk _ _ h5⟩
 ·split at h
  ·obtain⟨h1,h2,h3 | h3⟩:=h
   ·exact⟨h1,h2,.inl ⟨h3.1,h3.2.1,hk _ _ h3.2.2⟩⟩
   ·exact⟨h1,h2,.inr ⟨h3.1,h3.2.1,hk _ _ h3.2.2⟩⟩
  ·exact h
 ·split at h
  ·obtain⟨h1,h2,h3,h4,h5,h6⟩:=h;exact⟨h1,h2,h3,h4,h5,hk _ _ h6⟩
  ·exact h
 ·exact h
theorem zKZ {s b:Nat} {x y:HV} {z:List HV} {A B:Prop} (hk:∀v PS',K v PS'→K' v PS') (h:uf PS x A B K s b z y):uf PS x A B K' s b z y:=by
 cases y
 case int k n=>
  cases k<;>first | exact⟨h.1,h.2.1,h.2.2.1,h.2.2.2.1,Qt hk h.2.2.2.2⟩ | exact⟨h.1,Qv (fun N=>Qt hk) h.2⟩
 all_goals exact⟨h.1,Qv (fun N=>Qt hk) h.2⟩
theorem zFl {s:Nat} {x:HV} {N:Nat→List (List HV)} {K K':PL→Prop} (hk:∀PS',K PS'→K' PS') (h:wq PS s x N K):wq PS s x N K':=by
 unfold wq at*;split at h
 ·split at h
  ·obtain⟨h1,h2,h3,h4,h5⟩:=h;exact⟨h1,h2,h3,h4,hk _ h5⟩
  ·exact h
 ·obtain⟨h0,h⟩:=h
  refine⟨h0,?_⟩
  split at h
  ·obtain⟨h1,l,h2,h3,h4⟩:=h;exact⟨h1,l,h2,h3,hk _ h4⟩
  ·exact h
 ·exact h
theorem zPp {b:Builtin} {ts:List TypeId} {xs:List HV} (hk:∀v PS',K v PS'→K' v PS') (h:vj P b ts xs PS K):vj P b ts xs PS K':=by
 unfold vj at*;split at h
 ·exact Qs (fun v=>hk v PS) h
 ·unfold gR at*;split at h
  ·exact zKZ hk h
  ·exact h
 ·unfold kT at*;split at h
  ·exact Qv (fun N=>zFl fun PS'=>hk _ _) h
  ·exact h
 ·unfold kR at*;split at h
  ·exact zFl (fun PS'=>hk _ _) h
  ·exact h
 ·unfold Zu at*;split at h
  ·split at h
   ·unfold qT at*;split at h
    ·exact⟨h.1,h.2.1,h.2.2.1,hk _ _ h.2.2.2⟩
    ·exact h
   ·exact h
  ·exact h
 ·exact Ui (fun v=>hk v PS) h
 ·exact Ui (fun v=>hk v PS) h
 ·exact h
theorem zJy {op:BinOp} {t:TypeId} {x:HV} {K K':HV→Prop} (hk:∀v,K v→K' v) (h:jW P PS op t x K):jW P PS op t x K':=by
 unfold jW at*
 refine⟨h.1,?_⟩
 have h:=h.2
 split at h
 ·exact⟨fun e=>(h.1 e).imp (ux hk) (ux hk),fun e=>ux hk (h.2 e)⟩
 ·exact⟨h.1,fun e=>(h.2.1 e).imp (ux hk) (ux hk),fun e=>ux hk (h.2.2 e)⟩
 ·exact h
theorem zGa {m ix x:HV} {K K':PL→Prop} {z:Option (IntKind×HV)} (hk:∀v,K v→K' v) (h:uj PS m ix x K z):uj PS m ix x K' z:=by
 unfold uj at*
 split at h
 ·split at h
  ·unfold qT at*
   split at h
   ·exact⟨h.1,h.2.1,h.2.2.1,hk _ h.2.2.2⟩
   ·exact h
  ·unfold jD at*
   split at h
   ·exact⟨h.1,h.2.1,h.2.2.1,h.2.2.2.1,hk _ h.2.2.2.2⟩
   ·exact⟨h.1,h.2.1,h.2.2.1,h.2.2.2.1,hk _ h.2.2.2.2⟩
   ·exact h
  ·exact h
 ·exact h
theorem zNY {z:Option IntKind} (hk:∀v PS',K v PS'→K' v PS') (h:ZZ PS K z):ZZ PS K' z:=by
 unfold ZZ at*
 split at h
 ·exact hk _ _ h
 ·exact h
theorem zHc {m:HV} {z:Option (IntKind×HV)} (hk:∀v PS',K v PS'→K' v PS') (h:gD PS m K z):gD PS m K' z:=by
 unfold gD at*
 split at h
 ·split at h
  ·unfold qT at*
   split at h
   ·exact⟨h.1,hk _ _ h.2⟩
   ·exact h
  ·exact h
 ·exact h
theorem zP1 {it:HV} (hk:∀v PS',K v PS'→K' v PS') (h:jA PS it K):jA PS it K':=by
 unfold jA at*
 split at h
 ·unfold ZJ at*
  split at h
  ·refine⟨h.1,?_⟩
   have h:=h.2
   split at h
   ·unfold qT at*
    split at h
    ·exact⟨h.1,h.2.1,h.2.2.1,fun i b key y h1 h2=>hk _ _ (h.2.2.2.1 i b key y h1 h2),fun h1=>hk _ _ (h.2.2.2.2 h1)⟩
    ·exact h
   ·exact h
  ·exact h
 ·exact h
theorem zOL {it:HV} {K K':HV→Prop} (hk:∀v,K v→K' v) (h:gJ PS it K):gJ PS it K':=by
 unfold gJ at*
 split at h
 ·unfold ZJ at*
  split at h
  ·refine⟨h.1,?_⟩
   have h:=h.2
   split at h
   ·unfold qT at*
    split at h
    ·refine⟨h.1,h.2.1,?_⟩
     have h:=h.2.2
     split at h
     ·exact hk _ h
     ·exact h
    ·exact h
   ·exact h
  ·exact h
 ·exact h
theorem zNy {args:List HV} {q:Option (FuncId×List HV×List HV)} (hk:∀v PS',K v PS'→K' v PS') (h:uh P args PS K q):uh P args PS K' q:=by
 unfold uh at*;split at h
 ·exact⟨h.1,h.2.mono hk⟩
 ·exact h
theorem zMn {nm:String} {x:HV} {args:List HV} (hk:∀v PS',K v PS'→K' v PS') (h:jZ P nm x args PS K):jZ P nm x args PS K':=by
 cases x with
 | iface t y=>
  simp only[jZ] at h ⊢
  cases hg:jo P t nm with
  | none=>rw[hg] at h;exact h.elim
  | some g=>rw[hg] at h;exact⟨h.1,h.2.mono hk⟩
 | _=>exact h.elim
theorem zKd {t:TypeId} {x:HV} {ok:Bool} {d:Option TypeDesc} {K K':HV→Prop} (hk:∀v,K v→K' v) (h:Yf P t x ok K d):Yf P t x ok K' d:=by
 have main:gd P t ok K x→gd P t ok K' x:=by
  intro h
  cases x with
  | iface t' y=>
   simp only[gd] at h ⊢
   by_cases ht:t'=t
   ·rw[if_pos ht] at h ⊢;exact hk _ h
   ·rw[if_neg ht] at h ⊢
    refine⟨h.1,?_⟩
    have h2:=h.2
    cases hz:(P.info? t).bind (·.zero) with
    | none=>rw[hz] at h2;exact h2.elim
    | some z=>rw[hz] at h2;exact hk _ h2
  | _=>exact h.elim
 cases d with
 | none=>exact h
 | some d=>cases d<;>first | exact main h | exact h
theorem XH (hk:∀v PS',Kept (cls o) PS PS'→K v PS'→K' v PS') (h:hop P o fr PS K):hop P o fr PS K':=by
 by_cases hc:cls o≤2
 ·rw[GB hc] at*
  exact zDW (fun v hv=>hk v PS ⟨fun _=>rfl,fun h3=>by omega,fun h4=>by omega⟩ hv) h
 ·obtain⟨dst,op,ty,pos,after,guard⟩:=o
  cases op with
  | alloc t=>exact zA6 (fun v PS' hp=>hk v PS' ⟨fun h=>by simp[cls] at h,fun _=>hp,fun _=>hp.shp⟩) h
  | box t x=>exact zQB (fun v PS' hp=>hk v PS' ⟨fun h=>by simp[cls] at h,fun _=>hp,fun _=>hp.shp⟩) h
  | makeSlice t l c=>exact zMr (fun v PS' hp=>hk v PS' ⟨fun h=>by simp[cls] at h,fun _=>hp,fun _=>hp.shp⟩) h
  | store t x y=>exact zHp (fun PS' hp=>hk _ PS' ⟨fun h=>by simp[cls] at h,fun h=>by simp[cls] at h,fun _=>hp⟩) h
  | binOp op t x y t2=>
   cases hy:vw y
   ·simp[cls,hy] at hc
   ·simp only[hop,jq,hy,if_true] at h ⊢
    exact zJy (fun v hv=>hk v PS ⟨fun _=>rfl,fun h=>by simp[cls,hy] at h,fun h=>by simp[cls,hy] at h⟩ hv) h
  | makeMap t r=>cases r with
   | none=>exact zNY (fun v PS'=>hk v PS' ⟨fun h=>by simp[cls] at h,fun h=>by simp[cls] at h,fun h=>by simp[cls] at h⟩) h
   | some r=>exact h.elim
  | mapUpdate t m x y=>exact zGa (fun PS'=>hk _ PS' ⟨fun h=>by simp[cls] at h,fun h=>by simp[cls] at h,fun h=>by simp[cls] at h⟩) h
  | range t m=>exact zHc (fun v PS'=>hk v PS' ⟨fun h=>by simp[cls] at h,fun h=>by simp[cls] at h,fun h=>by simp[cls] at h⟩) h
  | next it s=>cases s with
   | true=>exact h.elim
   | false=>exact zP1 (fun v PS'=>hk v PS' ⟨fun h=>by simp[cls] at h,fun h=>by simp[cls] at h,fun h=>by simp[cls] at h⟩) h
  | entry it=>exact zOL (fun v hv=>hk v PS ⟨fun _=>rfl,fun h=>by simp[cls] at h,fun h=>by simp[cls] at h⟩ hv) h
  | call c=>
   obtain⟨callee,args,ts⟩:=c
   cases callee with
   | builtin b=>
    refine zPp (fun v PS'=>hk v PS' ?_) h
    refine⟨fun h=>absurd h hc,fun h=>?_,fun h=>?_⟩<;>cases b<;>simp[cls] at h
   | value f=>exact zNy (fun v PS'=>hk v PS' ⟨fun h=>by simp[cls] at h,fun h=>by simp[cls] at h,fun h=>by simp[cls] at h⟩) h
   | invoke r nm=>exact zMn (fun v PS'=>hk v PS' ⟨fun h=>by simp[cls] at h,fun h=>by simp[cls] at h,fun h=>by simp[cls] at h⟩) h
  | typeAssert x xt t ok=>exact zKd (fun v hv=>hk v PS ⟨fun _=>rfl,fun h=>by simp[cls] at h,fun h=>by simp[cls] at h⟩ hv) h
  | _=>first | exact h.elim | (simp[cls] at hc;done)
theorem zE1 (h:∀x∈o.op.operands,ev fr x=ev fr' x):hop P o fr PS K=hop P o fr' PS K:=by
 obtain⟨dst,op,ty,pos,after,guard⟩:=o
 have arr:∀l:Array Operand,(∀x∈l,ev fr x=ev fr' x)→l.toList.map (ev fr)=l.toList.map (ev fr'):=fun l hl=>List.map_congr_left fun x hx=>hl x (Array.mem_toList_iff.1 hx)
 have pairs:∀ps:Array (Nat×Operand),(∀x∈ps.map (·.2),ev fr x=ev fr' x)→(ps.toList.map fun p=>(p.1,ev fr p.2))=(ps.toList.map fun p=>(p.1,ev fr' p.2)):=fun ps hp=>
  List.map_congr_left fun p hm=>by
   rw[hp p.2 (Array.mem_map.2 ⟨p,Array.mem_toList_iff.1 hm,rfl⟩)]
 have opt:∀x:Option Operand,(∀y,x=some y→ev fr y=ev fr' y)→x.map (ev fr)=x.map (ev fr'):=fun x hx=>by
  cases x with
  | none=>rfl
  | some y=>simp[hx y rfl]
 cases op<;>simp only[Op.operands] at h<;>(try simp only[hop])
 case makeMap t r=>cases r<;>rfl
 case next it s=>
  cases s with
  | true=>rfl
  | false=>have e1:ev fr it=ev fr' it:=h it (by simp);simp only[hop,e1]
 case build t ps=>rw[pairs ps (by simpa using h)]
 case buildSlice t n ps=>rw[pairs ps (by simpa using h)]
 case makeFunc fn first captured=>rw[arr first fun x hx=>h x (by simp[hx]),arr captured fun x hx=>h x (by simp[hx])]
 case call c=>
  obtain⟨callee,args,ts⟩:=c
  have ha:=arr args fun x hx=>h x (by simp[Call.operands,hx])
  cases callee with
  | builtin b=>simp only[ha]
  | value f=>
   have hf:ev fr f=ev fr' f:=h f (by simp[Call.operands])
   simp only[ha,hf]
  | invoke r nm=>
   have hf:ev fr r=ev fr' r:=h r (by simp[Call.operands])
   simp only[ha,hf]
 case slice t x lo hi mx=>
  have e1:ev fr x=ev fr' x:=h x (by cases lo<;>cases hi<;>cases mx<;>simp)
  rw[e1,opt lo fun y hy=>h y (by subst hy;simp),opt hi fun y hy=>h y (by subst hy;cases lo<;>simp),opt mx fun y hy=>h y (by subst hy;cases lo<;>cases hi<;>simp)]
 all_goals (first | rfl | (simp_all;done))
end
end Go.Eng
namespace Go.Eng
open Go
variable [zB]
/-- A call that reads the pieces,and leaves them. -/
def Reads (P:Program) (f:FuncId) (args:List HV) (PS:PL) (res:HV):Prop:=∀PS',Pre PS PS'→zI P f args PS' fun x PS''=>x=res∧PS''=PS'
theorem Pre.trans {PS PS' PS'':PL} (h:Pre PS PS') (k:Pre PS' PS''):Pre PS PS'':=fun n=>by
 rcases h n with h | h
 ·exact .inl h
 ·rcases k n with k | k
  ·exact .inl (h▸k)
  ·exact .inr (k.trans h)
/-- Which calls only compute (0),only read (2). -/
abbrev Pu:=List (Nat×Nat)
def uZ (pu:Pu) (o:Oper):Option Nat:=
 match o.op with
 | .call ⟨.value (.func g),_,_⟩=>(match pu.lookup g with | some 0=>some 0 | some _=>some 2 | none=>none)
 | _=>none
def qD (pu:Pu) (o:Oper):Nat:=(uZ pu o).getD (cls o)
def vL (P:Program) (c:Nat) (args:List HV) (PS:PL) (K:HV→Prop):Option (FuncId×List HV×List HV)→Prop
 | some (g,f,cp)=>zQ P g=true∧(match c with
  | 0=>∃x,Pure P g (f++(args++cp)) x∧K x
  | _=>∃x,Reads P g (f++(args++cp)) PS x∧K x)
 | none=>False
def wj (P:Program) (c:Nat) (o:Oper) (fr:Fr) (PS:PL) (K:HV→Prop):Prop:=
 match o.op with
 | .call ⟨.value f,args,_⟩=>vL P c (args.toList.map (ev fr)) PS K (wu (ev fr f))
 | _=>False
def yb (P:Program) (o:Oper) (fr:Fr) (PS:PL) (K:HV→Prop):Prop:=
 match o.op with
 | .call ⟨.builtin .len,args,ts⟩=>(match ts.toList,args.toList.map (ev fr) with | [t],[x]=>vD P PS t x K | _,_=>False)
 | _=>zT P o fr PS K
def zb (P:Program) (pu:Pu) (o:Oper) (fr:Fr) (PS:PL) (K:HV→Prop):Prop:=
 match uZ pu o with
 | some c=>wj P c o fr PS K
 | none=>yb P o fr PS K
def zu (P:Program) (pu:Pu) (o:Oper) (fr:Fr) (PS:PL) (K:HV→PL→Prop):Prop:=
 match uZ pu o with
 | some c=>wj P c o fr PS (fun v=>K v PS)
 | none=>hop P o fr PS K
section
variable {P:Program} {pu:Pu} {PS PS':PL} {fr fr':Fr} {o:Oper} {K K':HV→PL→Prop}
theorem zBt {c:Nat} (h:uZ pu o=some c):(c=0∨c=2)∧∃g args ts,o.op=.call ⟨.value (.func g),args,ts⟩:=by
 unfold uZ at h
 split at h
 ·rename_i g args ts he
  refine⟨?_,g,args,ts,he⟩
  split at h<;>cases h<;>simp
 ·cases h
theorem zKP {c:Nat} {args:List HV} {q:Option (FuncId×List HV×List HV)} {K K':HV→Prop} (hk:∀v,K v→K' v) (h:vL P c args PS K q):vL P c args PS K' q:=by
 unfold vL at*
 split at h
 ·refine⟨h.1,?_⟩
  have h2:=h.2
  split at h2<;>obtain⟨x,h3,h4⟩:=h2<;>exact⟨x,h3,hk _ h4⟩
 ·exact h
theorem zDH {c:Nat} {K K':HV→Prop} (hk:∀v,K v→K' v) (h:wj P c o fr PS K):wj P c o fr PS K':=by
 unfold wj at*
 split at h
 ·exact zKP hk h
 ·exact h
theorem zHh {c:Nat} {K:HV→Prop} (h:wj P c o fr PS K):∃z,wj P c o fr PS (fun v=>v=z)∧K z:=by
 unfold wj vL at*
 split at h
 ·split at h
  ·obtain⟨h1,h2⟩:=h
   split at h2<;>obtain⟨x,h3,h4⟩:=h2<;>exact⟨x,⟨h1,x,h3,rfl⟩,h4⟩
  ·exact h.elim
 ·exact h.elim
theorem zMl {c:Nat} {K:HV→Prop} (hp:c=0∨Pre PS PS') (h:wj P c o fr PS K):wj P c o fr PS' K:=by
 unfold wj vL at*
 split at h
 ·split at h
  ·refine⟨h.1,?_⟩
   have h2:=h.2
   rcases c with _ | c
   ·exact h2
   ·obtain⟨x,h3,h4⟩:=h2
    exact⟨x,fun PS'' hq=>h3 PS'' ((hp.resolve_left (by omega)).trans hq),h4⟩
  ·exact h
 ·exact h
theorem zRe {c:Nat} (h:wj P c o fr PS (fun v=>K v PS)):hop P o fr PS K:=by
 obtain⟨dst,op,ty,pos,after,guard⟩:=o
 unfold wj at h
 split at h
 ·rename_i f args ts he
  simp only at he
  subst he
  simp only[hop]
  generalize wu (ev fr f)=q at h
  cases q with
  | none=>exact h.elim
  | some q=>
   obtain⟨g,ff,cp⟩:=q
   refine⟨h.1,?_⟩
   have h2:=h.2
   rcases c with _ | c
   ·obtain⟨x,h3,h4⟩:=h2;exact h3.call h4
   ·obtain⟨x,h3,h4⟩:=h2;exact(h3 PS (Pre.refl PS)).mono (by rintro x PS' ⟨rfl,rfl⟩;exact h4)
 ·exact h.elim
theorem zL2 (h:zu P pu o fr PS K):hop P o fr PS K:=by
 unfold zu at h
 split at h
 ·exact zRe h
 ·exact h
theorem zDJ {t:TypeId} {x:HV} {K:HV→Prop} (h:vD P PS t x K):hlen P PS t x K:=by
 obtain⟨z,h1,h2⟩:=zQ3 h
 exact Qs (fun v hv=>by subst hv;exact h2) h1
theorem zRA {K:HV→Prop} (h:yb P o fr PS K):zT P o fr PS K:=by
 obtain⟨dst,op,ty,pos,after,guard⟩:=o
 unfold yb at h
 split at h
 ·rename_i args ts he
  simp only at he
  subst he
  simp only[zT]
  generalize ts.toList=tl at h
  generalize List.map (ev fr) args.toList=xl at h
  split at h
  ·exact zDJ h
  ·exact h.elim
 ·exact h
theorem zAv (hc:qD pu o≤2) (h:zb P pu o fr PS (fun v=>K v PS)):zu P pu o fr PS K:=by
 unfold zb at h
 unfold zu
 unfold qD at hc
 split at h
 ·exact h
 ·rename_i hn
  rw[hn] at hc
  rw[GB hc]
  exact zRA h
theorem KR (hk:∀v PS',Kept (qD pu o) PS PS'→K v PS'→K' v PS') (h:zu P pu o fr PS K):zu P pu o fr PS K':=by
 unfold zu at*
 unfold qD at hk
 split at h
 ·rename_i c hc
  rw[hc] at hk
  obtain⟨hc2,_⟩:=zBt hc
  exact zDH (fun v=>hk v PS ⟨fun _=>rfl,fun _=>.refl PS,fun _=>(Pre.refl PS).shp⟩) h
 ·rename_i hn
  rw[hn] at hk
  exact XH hk h
theorem zGV {t:TypeId} {x:HV} {K:HV→Prop} (h:vD P PS t x K):∃z,vD P PS t x (fun v=>v=z)∧K z:=by
 unfold vD at*
 split at h<;>rename_i hu
 ·cases x with
  | str s=>exact⟨_,rfl,h⟩
  | stok i=>
   simp only at h ⊢
   cases hj:zB.slen i with
   | none=>rw[hj] at h;exact h.elim
   | some j=>rw[hj] at h;exact⟨_,rfl,h⟩
  | _=>exact h.elim
 ·cases x<;>first | exact⟨_,rfl,h⟩ | exact⟨_,⟨h.1,rfl⟩,h.2⟩ | exact zDN h | exact h.elim
 ·exact⟨_,rfl,h⟩
 ·split at h
  ·exact⟨_,rfl,h⟩
  ·exact h.elim
 ·exact h.elim
theorem zGT {t:TypeId} {x:HV} {K K':HV→Prop} (hk:∀v,K v→K' v) (h:vD P PS t x K):vD P PS t x K':=by
 unfold vD at*
 split at h<;>rename_i hu
 ·cases x with
  | str s=>exact hk _ h
  | stok i=>
   simp only at h ⊢
   cases hj:zB.slen i with
   | none=>rw[hj] at h;exact h.elim
   | some j=>rw[hj] at h;exact hk _ h
  | _=>exact h
 ·cases x<;>first | exact hk _ h | exact⟨h.1,hk _ h.2⟩ | exact zBe hk h | exact h
 ·exact hk _ h
 ·split at h
  ·exact hk _ h
  ·exact h
 ·exact h
theorem zFh (hs:Shp PS PS') {t:TypeId} {x:HV} {K:HV→Prop} (h:vD P PS t x K):vD P PS' t x K:=by
 unfold vD at*
 split at h<;>rename_i hu
 ·cases x<;>exact h
 ·cases x<;>first | exact h | exact⟨hs.ver h.1,h.2⟩
 ·exact h
 ·split at h
  ·exact h
  ·exact h
 ·exact h
theorem zLV {K K':HV→Prop} (hk:∀v,K v→K' v) (h:yb P o fr PS K):yb P o fr PS K':=by
 unfold yb at*
 split at h
 ·split at h
  ·exact zGT hk h
  ·exact h
 ·exact zDW hk h
theorem UA {K K':HV→Prop} (hk:∀v,K v→K' v) (h:zb P pu o fr PS K):zb P pu o fr PS K':=by
 unfold zb at*
 split at h
 ·exact zDH hk h
 ·exact zLV hk h
theorem zIF (hn:∀args ts,o.op≠ .call ⟨.builtin .len,args,ts⟩) {K:HV→Prop} (h:zT P o fr PS K):∃z,zT P o fr PS (fun v=>v=z)∧K z:=by
 obtain⟨dst,op,ty,pos,after,guard⟩:=o
 cases op with
 | move x=>exact⟨_,rfl,h⟩
 | assign x=>exact⟨_,rfl,h⟩
 | pick c x y=>exact zJM h
 | load t x=>exact zRq h
 | nilCheck x=>exact zPL h
 | binOp op t x y _=>exact zPq h
 | unOp op _ x=>exact zMQ h
 | convert s d x=>exact zJX h
 | fieldAddr s x f=>exact zRk h
 | field t x f=>exact zRv h
 | indexAddr t x i=>exact zMh h
 | index t x i=>exact zMN h
 | extract x i=>exact zNS h
 | slice t x l h' m=>exact zKI h
 | build t ps=>exact zKl h
 | buildSlice t n ps=>exact zGd h
 | makeInterface t x=>exact zPV h
 | lookup t m x ok=>exact zQv h
 | makeFunc fn f c=>exact⟨_,rfl,h⟩
 | call c=>
  obtain⟨callee,args,ts⟩:=c
  cases callee with
  | builtin b=>
   cases b<;>first | exact h.elim | skip
   ·exact absurd rfl (hn args ts)
   ·exact zE2 h
   ·exact zE2 h
  | _=>exact h.elim
 | _=>exact h.elim
theorem zC1 {K:HV→Prop} (h:zb P pu o fr PS K):∃z,zb P pu o fr PS (fun v=>v=z)∧K z:=by
 unfold zb at*
 split at h
 ·exact zHh h
 ·unfold yb at*
  split at h
  ·split at h
   ·exact zGV h
   ·exact h.elim
  ·rename_i hn
   exact zIF (fun args ts he=>hn args ts he) h
/-- May an operation of class a be done ahead of one of class c. -/
def gI (a c:Nat):Bool:=c≤2 || a == 0 || (a == 1&&c≤4) || c == 3
theorem zNj {c:Nat} (hc:qD pu o≤2) (hcomp:gI (qD pu o) c=true) (hk:Kept c PS PS') {K:HV→Prop} (h:zb P pu o fr PS K):zb P pu o fr PS' K:=by
 by_cases h2:c≤2
 ·rw[hk.1 h2];exact h
 have h34:qD pu o=0∨(qD pu o=1∧Shp PS PS')∨Pre PS PS':=by
  unfold gI at hcomp
  simp only[Bool.or_eq_true,Bool.and_eq_true,decide_eq_true_eq,beq_iff_eq] at hcomp
  rcases hcomp with ((h' | h') | h') | h'
  ·omega
  ·exact .inl h'
  ·rcases (by omega:c=3∨c=4) with h3 | h3
   ·exact .inr (.inr (hk.2.1 h3))
   ·exact .inr (.inl ⟨h'.1,hk.2.2 h3⟩)
  ·exact .inr (.inr (hk.2.1 h'))
 unfold zb at*
 unfold qD at hc h34
 cases hcc:uZ pu o with
 | some d=>
  rw[hcc] at h h34
  obtain⟨hd,_⟩:=zBt hcc
  refine zMl ?_ h
  rcases h34 with h' | h' | h'
  ·exact .inl h'
  ·have:=h'.1;simp only[Option.getD_some] at this;omega
  ·exact .inr h'
 | none=>
  rw[hcc] at h h34 hc
  simp only[Option.getD_none] at h34 hc
  simp only at h ⊢
  unfold yb at*
  split at h
  ·rename_i args ts he
   have:cls o=1:=by unfold cls;simp[he]
   split at h
   ·rcases h34 with h' | h' | h'
    ·omega
    ·exact zFh h'.2 h
    ·exact zFh h'.shp h
   ·exact h
  ·rcases h34 with h' | h' | h'
   ·exact zRI h' h
   ·exact zFI h'.2 (by omega) h
   ·exact zGw h' hc h
theorem zNC {dst:Option Tmp} {v:HV} {x:Operand} (h:∀d,dst=some d→x≠ .tmp d):ev (zV fr dst v) x=ev fr x:=by
 cases dst with
 | none=>rfl
 | some d=>
  cases x with
  | tmp t=>
   have hne:d≠t:=fun e=>h d rfl (e▸rfl)
   simp[ev,get,zV,List.getD,List.getElem?_set_ne hne]
  | _=>rfl
theorem Qz (fr:Fr) {x y:Option Tmp} (v u:HV) (h:∀d,x=some d→y≠some d):zV (zV fr x v) y u=zV (zV fr y u) x v:=by
 cases x with
 | none=>rfl
 | some d=>
  cases y with
  | none=>rfl
  | some e=>
   have hne:d≠e:=fun he=>h d rfl (he▸rfl)
   simp[zV,List.set_comm _ _ hne]
theorem zD0 {K:HV→Prop} (h:cls o≤2):zT P o fr PS K=hop P o fr PS (fun v _=>K v):=(GB h (fun v _=>K v)).symm
theorem zCm {c:Nat} {K:HV→Prop} (h:∀x∈o.op.operands,ev fr x=ev fr' x):wj P c o fr PS K=wj P c o fr' PS K:=by
 obtain⟨dst,op,ty,pos,after,guard⟩:=o
 cases op<;>simp only[wj]
 case call cl=>
  obtain⟨callee,args,ts⟩:=cl
  cases callee with
  | value f=>
   have hf:ev fr f=ev fr' f:=h f (by simp[Op.operands,Call.operands])
   have ha:args.toList.map (ev fr)=args.toList.map (ev fr'):=List.map_congr_left fun x hx=>h x (by simp[Op.operands,Call.operands];right;exact Array.mem_toList_iff.1 hx)
   simp only[hf,ha]
  | _=>rfl
theorem zEe (h:∀x∈o.op.operands,ev fr x=ev fr' x):zu P pu o fr PS K=zu P pu o fr' PS K:=by
 unfold zu
 split
 ·exact zCm h
 ·exact zE1 h
theorem zMB (hc:qD pu o≤2) {K:HV→Prop} (h:∀x∈o.op.operands,ev fr x=ev fr' x):zb P pu o fr PS K=zb P pu o fr' PS K:=by
 unfold zb
 unfold qD at hc
 split
 ·exact zCm h
 ·rename_i hn
  rw[hn] at hc
  simp only[Option.getD_none] at hc
  unfold yb
  split
  ·rename_i args ts he
   have ha:args.toList.map (ev fr)=args.toList.map (ev fr'):=List.map_congr_left fun x hx=>h x (by simp[he,Op.operands,Call.operands];exact Array.mem_toList_iff.1 hx)
   rw[ha]
  ·rw[zD0 hc,zD0 hc];exact zE1 h
end
end Go.Eng
namespace Go.Eng
open Go
variable [zB]
/-- Under a guard. -/
def hgd (ops:Array Oper) (o:Oper) (fr:Fr) (A B:Prop):Prop:=
 match o.guard with
 | none=>A
 | some (j,want)=>jF want A B (qc ops fr j)
def qn (P:Program) (pu:Pu) (ops:Array Oper) (i:Nat) (K:Fr→PL→Prop) (fr:Fr) (PS:PL):Prop:=
 match ops[i]? with
 | none=>K fr PS
 | some o=>hgd ops o fr (zu P pu o fr PS fun v PS'=>K (zV fr o.dst v) PS') (K (zV fr o.dst (.cst undef)) PS)
abbrev Chk:=Nat→Fr→PL→Prop
def vI (P:Program) (pu:Pu) (ops:Array Oper) (chk:Chk) (K:Fr→PL→Prop):Nat→Array Bool→Fr→PL→Prop
 | 0,listed,fr,PS=>Region.ready .any ops listed=[]∧K fr PS
 | n+1,listed,fr,PS=>(Region.ready .any ops listed=[]→K fr PS)∧
   ∀i∈Region.ready .any ops listed,qn P pu ops i (fun fr PS=>chk i fr PS∧vI P pu ops chk K n (listed.setIfInBounds i true) fr PS) fr PS
/-- A value is still what it was. -/
def kv (o:Oper) (fr:Fr) (v:HV):Prop:=
 match o.dst with
 | some d=>v=get fr d
 | none=>True
def hv1 (P:Program) (pu:Pu) (ops:Array Oper) (o:Oper) (fr:Fr) (PS:PL) (K:HV→Prop):Prop:=hgd ops o fr (zb P pu o fr PS K) (K (.cst undef))
def hre (P:Program) (pu:Pu) (ops:Array Oper) (i:Nat) (fr:Fr) (PS:PL):Prop:=
 match ops[i]? with
 | none=>True
 | some o=>hv1 P pu ops o fr PS (kv o fr)
section
variable {P:Program} {pu:Pu} {ops:Array Oper} {PS PS':PL} {fr fr':Fr} {o:Oper} {chk chk':Chk} {K:Fr→PL→Prop}
theorem xP {A B A' B':Prop} (ha:A→A') (hb:B→B') (h:hgd ops o fr A B):hgd ops o fr A' B':=by
 unfold hgd at*
 split at h
 ·exact ha h
 ·rename_i j want _
  generalize qc ops fr j=u at*
  cases u with
  | bool b=>exact⟨fun e=>ha (h.1 e),fun e=>hb (h.2 e)⟩
  | cst v=>cases v<;>first | exact h.elim | exact hb h
  | _=>exact h.elim
theorem Uu {i:Nat} {K K':Fr→PL→Prop} (hk:∀fr PS,K fr PS→K' fr PS) (h:qn P pu ops i K fr PS):qn P pu ops i K' fr PS:=by
 unfold qn at*
 split at h
 ·exact hk _ _ h
 ·exact xP (KR fun v PS' _=>hk _ _) (hk _ _) h
theorem Vu (hc:∀j fr PS,chk j fr PS→chk' j fr PS):∀(n:Nat) (listed:Array Bool) (fr:Fr) (PS:PL),vI P pu ops chk K n listed fr PS→vI P pu ops chk' K n listed fr PS
 | 0,_,_,_,h=>h
 | n+1,_,_,_,h=>⟨h.1,fun i hi=>Uu (fun fr PS hk=>⟨hc _ _ _ hk.1,Vu hc n _ fr PS hk.2⟩) (h.2 i hi)⟩
theorem zFg {n:Nat} {listed:Array Bool} (hr:Region.ready .any ops listed=[]) (h:K fr PS):vI P pu ops chk K n listed fr PS:=by
 cases n with
 | zero=>exact⟨hr,h⟩
 | succ n=>exact⟨fun _=>h,fun i hi=>by rw[hr] at hi;cases hi⟩
theorem zAu {dst:Option Tmp} {v:HV} (h:∀d,dst=some d→d∉o.looksAt ops):∀x∈o.op.operands,ev (zV fr dst v) x=ev fr x:=fun x hx=>
 zNC fun d hd hxd=>h d hd (by
  subst hxd
  exact List.mem_append_left _ (List.mem_filterMap.2 ⟨.tmp d,by simpa using hx,rfl⟩))
theorem zOw {dst:Option Tmp} {v:HV} {j:Nat} {want:Bool} (hg:o.guard=some (j,want)) (h:∀d,dst=some d→d∉o.looksAt ops):qc ops (zV fr dst v) j=qc ops fr j:=by
 cases dst with
 | none=>rfl
 | some d=>
  unfold qc
  cases ht:(ops[j]?).bind (·.dst) with
  | none=>rfl
  | some t=>
   have hne:d≠t:=fun e=>h d rfl (by subst e;simp[Oper.looksAt,hg,ht])
   simp[get,zV,List.getD,List.getElem?_set_ne hne]
theorem zB7 {dst:Option Tmp} {v:HV} {A B:Prop} (h:∀d,dst=some d→d∉o.looksAt ops):hgd ops o (zV fr dst v) A B=hgd ops o fr A B:=by
 unfold hgd
 split
 ·rfl
 ·rename_i j want hg;rw[zOw hg h]
theorem zKB {dst:Option Tmp} {v:HV} {K:HV→PL→Prop} (h:∀d,dst=some d→d∉o.looksAt ops):zu P pu o (zV fr dst v) PS K=zu P pu o fr PS K:=zEe (zAu h)
theorem zQy {dst:Option Tmp} {v:HV} {K:HV→Prop} (hc:qD pu o≤2) (h:∀d,dst=some d→d∉o.looksAt ops):zb P pu o (zV fr dst v) PS K=zb P pu o fr PS K:=zMB hc (zAu h)
theorem QS {dst:Option Tmp} {v:HV} {K:HV→Prop} (hc:qD pu o≤2) (h:∀d,dst=some d→d∉o.looksAt ops):hv1 P pu ops o (zV fr dst v) PS K=hv1 P pu ops o fr PS K:=by
 unfold hv1;rw[zB7 h,zQy hc h]
theorem Yt {K K':HV→Prop} (hk:∀v,K v→K' v) (h:hv1 P pu ops o fr PS K):hv1 P pu ops o fr PS K':=xP (UA hk) (hk _) h
theorem zQs {c:Nat} (hc:qD pu o≤2) (hcomp:gI (qD pu o) c=true) (hk:Kept c PS PS') {K:HV→Prop} (h:hv1 P pu ops o fr PS K):hv1 P pu ops o fr PS' K:=xP (zNj hc hcomp hk) id h
theorem zPN {K:HV→Prop} (h:hv1 P pu ops o fr PS K):∃z,hv1 P pu ops o fr PS (fun v=>v=z)∧K z:=by
 unfold hv1 hgd at*
 split at h
 ·exact zC1 h
 ·rename_i j want _
  generalize qc ops fr j=u at*
  cases u with
  | bool b=>
   by_cases hb:b=want
   ·obtain⟨z,h1,h2⟩:=zC1 (h.1 hb)
    exact⟨z,⟨fun _=>h1,fun hn=>absurd hb hn⟩,h2⟩
   ·exact⟨.cst undef,⟨fun hn=>absurd hn hb,fun _=>rfl⟩,h.2 hb⟩
  | cst v=>cases v<;>first | exact h.elim | exact⟨.cst undef,rfl,h⟩
  | _=>exact h.elim
/-- What is listed waits for what is listed;but for X,which are listed from the beginning,and for which nothing else waits. -/
structure gg (X:Nat→Bool) (ops:Array Oper) (listed:Array Bool):Prop where
 sub:∀j,X j=true→listed.getD j true=true
 out:∀(j:Nat) (o:Oper),ops[j]? =some o→X j=false→∀e∈o.after,Region.binds .any e=true→X e.on=false
 dn:∀(j:Nat) (o:Oper),ops[j]? =some o→X j=false→listed.getD j false=true→∀e∈o.after,Region.binds .any e=true→listed.getD e.on false=true
/-- These wait for i,through others. -/
def Vb (ops:Array Oper) (i:Nat) (R:Nat→Bool):Prop:=∀(X:Nat→Bool) (listed:Array Bool),gg X ops listed→∀(j:Nat) (o:Oper),ops[j]? =some o→X j=false→(∀e∈o.after,Region.binds .any e=true→listed.getD e.on false=true)→R j=true→listed.getD i false=true
theorem gg.set {X:Nat→Bool} {i:Nat} {listed:Array Bool} (hd:gg X ops listed) (hi:i∈Region.ready .any ops listed):gg X ops (listed.setIfInBounds i true):=by
 refine⟨fun j hj=>?_,hd.out,?_⟩
 ·by_cases hij:i=j
  ·subst hij
   simp only[Array.getD_eq_getD_getElem?,Array.getElem?_setIfInBounds]
   by_cases h:i<listed.size<;>simp[h]
  ·rw[getD_set_ne true hij];exact hd.sub j hj
 intro j o ho hX hl e he hb
 by_cases hij:i=j
 ·subst hij
  obtain⟨_,o',ho',hall⟩:=mem_ready.1 hi
  rw[ho] at ho';cases ho'
  exact getD_set_true (hall e he hb)
 ·rw[getD_set_ne false hij] at hl
  exact getD_set_true (hd.dn j o ho hX hl e he hb)
/-- What only computes may be done first. -/
theorem zDh {X:Nat→Bool} {i:Nat} {oi:Oper} {S:List Nat} {z:HV} {R:Nat→Bool} (hR:Vb ops i R) (hi:ops[i]? =some oi) (hc:qD pu oi≤2) (hinv:∀j fr PS v,chk j (zV fr oi.dst v) PS→chk j fr PS) (hchi:∀fr PS,chk i fr PS) (hself:∀j∈S,∀d,oi.dst=some d→d∉oi.looksAt ops):
  ∀(n:Nat) (listed:Array Bool) (fr:Fr) (PS:PL),gg X ops listed→
   (∀j oj,ops[j]? =some oj→j≠i→listed.getD j true=false→R j=true∨(oi.apart ops oj=true∧(gI (qD pu oi) (qD pu oj)=true∨j∈S)))→
   i∈Region.ready .any ops listed→hv1 P pu ops oi fr PS (fun v=>zV fr oi.dst v=zV fr oi.dst z)→
   vI P pu ops (fun j fr PS=>chk j fr PS∧(j∈S→hre P pu ops i fr PS)) K n (listed.setIfInBounds i true) (zV fr oi.dst z) PS→vI P pu ops chk K (n+1) listed fr PS:=by
 intro n
 induction n with
 | zero=>
  intro listed fr PS hd hap hr hv H
  refine⟨fun h0=>(by rw[h0] at hr;cases hr),fun j hj=>?_⟩
  by_cases hji:j=i
  ·subst hji
   unfold qn
   simp only[hi]
   refine xP (fun hh=>?_) (fun hh=>?_) hv
   ·exact zAv hc (UA (fun v hv=>by rw[hv];exact⟨hchi _ _,H⟩) hh)
   ·rw[hh];exact⟨hchi _ _,H⟩
  ·have:=ready_mono hj hji
   rw[H.1] at this;cases this
 | succ n ih=>
  intro listed fr PS hd hap hr hv H
  refine⟨fun h0=>(by rw[h0] at hr;cases hr),fun j hj=>?_⟩
  by_cases hji:j=i
  ·subst hji
   have H':=Vu (chk':=chk) (fun j fr PS h=>h.1) _ _ _ _ H
   unfold qn
   simp only[hi]
   refine xP (fun hh=>?_) (fun hh=>?_) hv
   ·exact zAv hc (UA (fun v hv=>by rw[hv];exact⟨hchi _ _,H'⟩) hh)
   ·rw[hh];exact⟨hchi _ _,H'⟩
  ·have Hj:=H.2 j (ready_mono hj hji)
   obtain⟨hl0,oj,hoj,hall⟩:=mem_ready.1 hj
   obtain⟨hi0,_⟩:=mem_ready.1 hr
   have hlt:i<ops.size:=(Array.getElem?_eq_some_iff.1 hi).1
   have wU:=hap j oj hoj hji hl0
   have hnr:¬R j=true:=fun h=>by
    have hXj:X j=false:=by
     cases hx:X j with
     | false=>rfl
     | true=>have:=hd.sub j hx;rw[hl0] at this;cases this
    have:=hR X listed hd j oj hoj hXj hall h
    have hi0':listed.getD i false=false:=by
     simp only[Array.getD_eq_getD_getElem?] at hi0 ⊢
     cases hx:listed[i]? with
     | none=>rfl
     | some b=>rw[hx] at hi0;simpa using hi0
    rw[hi0'] at this;cases this
   obtain⟨hapart,hcs⟩:=wU.resolve_left hnr
   obtain⟨h1,h2,h3⟩:=Oper.apart_spec hapart
   have h2':∀d,oj.dst=some d→oi.dst≠some d:=fun d hd hn=>h2 d hn hd
   have step:∀(v:HV) (PS':PL),Kept (qD pu oj) PS PS'→
     ((chk j (zV (zV fr oi.dst z) oj.dst v) PS'∧(j∈S→hre P pu ops i (zV (zV fr oi.dst z) oj.dst v) PS'))∧
      vI P pu ops (fun j fr PS=>chk j fr PS∧(j∈S→hre P pu ops i fr PS)) K n ((listed.setIfInBounds i true).setIfInBounds j true) (zV (zV fr oi.dst z) oj.dst v) PS')→
     chk j (zV fr oj.dst v) PS'∧vI P pu ops chk K (n+1) (listed.setIfInBounds j true) (zV fr oj.dst v) PS':=by
    rintro v PS' hkept ⟨⟨hk1,hk2⟩,hk3⟩
    rw[Qz fr z v h2] at hk1 hk2 hk3
    refine⟨hinv _ _ _ _ hk1,ih _ _ _ (hd.set hj) ?_ (ready_mono hr (Ne.symm hji)) ?_ ?_⟩
    ·intro k ok hk hki hkl
     refine hap k ok hk hki ?_
     by_cases hjk:j=k
     ·subst hjk
      have hsz:j<listed.size:=by
       rcases Nat.lt_or_ge j listed.size with h' | h'
       ·exact h'
       ·simp[Array.getElem?_eq_none h'] at hl0
      simp[hsz] at hkl
     ·rwa [getD_set_ne true hjk] at hkl
    ·rcases hcs with hcomp | hS
     ·rw[QS hc h3]
      refine zQs hc hcomp hkept (Yt (fun u hu=>?_) hv)
      rw[Qz fr v u h2',hu,Qz fr v z h2']
     ·have hh:=hk2 hS
      unfold hre at hh
      simp only[hi] at hh
      by_cases hin:∃d,oi.dst=some d∧d<fr.length
      ·obtain⟨d,hd',hdl⟩:=hin
       have hl1:d<(zV fr oj.dst v).length:=by cases oj.dst<;>simpa [zV] using hdl
       rw[QS hc (hself j hS)] at hh
       refine Yt (fun u hu=>?_) hh
       unfold kv at hu
       rw[hd'] at hu ⊢
       simp only[zV] at hu ⊢
       have:get ((zV fr oj.dst v).set d z) d=z:=by simp[get,List.getD,hl1]
       unfold zV at this
       rw[hu,this]
      ·have hset:∀(f:Fr) u,f.length=fr.length→zV f oi.dst u=f:=fun f u hf=>by
        cases hdd:oi.dst with
        | none=>rfl
        | some d=>
         have:f.length≤d:=by rw[hf];exact Nat.le_of_not_lt fun h'=>hin ⟨d,hdd,h'⟩
         simp[zV,List.set_eq_of_length_le this]
       have hlen:(zV fr oj.dst v).length=fr.length:=by cases oj.dst<;>simp[zV]
       rw[hset _ z hlen] at hh
       exact Yt (fun u _=>by rw[hset _ u hlen,hset _ z hlen]) hh
    ·rwa [Array.setIfInBounds_comm _ _ (Ne.symm hji)] at hk3
   unfold qn at Hj ⊢
   simp only[hoj] at Hj ⊢
   rw[zB7 h1,zKB h1] at Hj
   exact xP (KR fun v PS' hk=>step v PS' hk) (step (.cst undef) PS ⟨fun _=>rfl,fun _=>.refl PS,fun _=>(Pre.refl PS).shp⟩) Hj
end
end Go.Eng
