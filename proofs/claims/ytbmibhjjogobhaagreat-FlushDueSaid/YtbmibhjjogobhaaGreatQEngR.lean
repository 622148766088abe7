/-
A function's contract out of its text; contracts of pure functions.
No conditions.
-/
import Derived.Test.YtbmibhjjogobhaaGreatQEngN
set_option linter.unusedSectionVars false
set_option linter.unusedSimpArgs false
set_option linter.unusedVariables false
namespace Go.Eng
open Go
variable [zB]
/-- The results of a function,from its slots and from the variables that hold them. -/
def wK (P:Program) (fr:Fr) (PS:PL) (K:List HV→Prop):List ResultVar→Prop
 | []=>K []
 | .tmp t::r=>wK P fr PS (fun l=>K (get fr t::l)) r
 | .cell t ty::r=>wB PS (get fr t) (fun x=>wK P fr PS (fun l=>K (x::l)) r) (tsz P ty)
def jg (K:HV→Prop):List HV→Prop
 | [x]=>K x
 | l=>K (.tup l)
def je (P:Program) (rs:List ResultVar) (K:HV→PL→Prop):HX→Fr→PL→Prop
 | .normal,fr,PS=>wK P fr PS (jg fun x=>K x PS) rs
 | .ret,fr,PS=>wK P fr PS (jg fun x=>K x PS) rs
 | _,_,_=>False
def vE (n:Nat) (args:List HV):Fr:=args++List.replicate (n - args.length) .junk
section
variable {P:Program} {hdraw:qY} {ds:List Deferred} {F:Nat→Prop} {e e0:List Pos} {D D0:Nat→Nat→Prop} {PS PS':PL} {w w0 w':World} {fr:Fr} {a:Act} {K:HV→PL→Prop} {M:Nat→Prop}
def xg (t:Array Value):ResultVar→Sem Value
 | .tmp i=>pure (t.getD i undef)
 | .cell c ty=>do loadVar ty (←asAddr (t.getD c undef))
theorem zOG (fn:Func) (t:Array Value):results fn t=(do let vs←fn.results.mapM (xg t);pure (if h:vs.size=1 then vs[0] else .tuple vs)):=by
 unfold results
 have:(fun r:ResultVar=>match r with | .tmp i=>(pure (t.getD i undef):Sem Value) | .cell c ty=>do loadVar ty (←asAddr (t.getD c undef)))=xg t:=by
  funext r;cases r<;>rfl
 rw[←this]
 rfl
theorem zN7 (hr:Rel F e D PS w) (hf:zy (Mut F D) e w fr a.tmps):∀(rs:List ResultVar) (K:List HV→Prop),wK P fr PS K rs→
  ∃l vs,(rs.mapM (xg a.tmps)).run P w=.ok vs w∧l.length=vs.length∧(∀(i:Nat) (x:HV) (u:Value),l[i]? =some x→vs[i]? =some u→zH (Mut F D) e w x u)∧K l:=by
 intro rs
 induction rs with
 | nil=>intro K h;exact⟨[],[],rfl,rfl,by simp,h⟩
 | cons r rs ih=>
  intro K h
  have fin:∀(x:HV) (u:Value),zH (Mut F D) e w x u→(xg a.tmps r).run P w=.ok u w→wK P fr PS (fun l=>K (x::l)) rs→∃l vs,((r::rs).mapM (xg a.tmps)).run P w=.ok vs w∧l.length=vs.length∧(∀(i:Nat) (x:HV) (u:Value),l[i]? =some x→vs[i]? =some u→zH (Mut F D) e w x u)∧K l:=by
   intro x u hx hrun hk
   obtain⟨l,vs,h1,h2,h3,h4⟩:=ih _ hk
   refine⟨x::l,u::vs,?_,by simp[h2],?_,h4⟩
   ·simp only[List.mapM_cons,Sem.run_bind,hrun,Result.andThen_ok,h1,Sem.run_pure]
   ·intro i y v hy hv
    cases i with
    | zero=>simp at hy hv;subst hy;subst hv;exact hx
    | succ i=>exact h3 i y v (by simpa using hy) (by simpa using hv)
  cases r with
  | tmp t=>exact fin _ _ (XG hf t) rfl h
  | cell c t=>
   obtain⟨y,v,h1,h2,h3⟩:=zEK (P:=P) (t:=t) (K:=fun x=>wK P fr PS (fun l=>K (x::l)) rs) hr (XG hf c) h
   refine fin y v h2 ?_ h3
   simp only[xg,Sem.run_bind]
   cases hu:a.tmps.getD c undef with
   | pointer ad=>
    cases ad with
    | some ad=>rw[hu] at h1;simpa [Instr.loadAt,Instr.sureAddr,asAddr] using h1
    | none=>rw[hu] at h1;simp[Instr.loadAt,Instr.sureAddr,stuck,Sem.run] at h1
   | _=>rw[hu] at h1;simp[Instr.loadAt,Instr.sureAddr,stuck,Sem.run] at h1
theorem XZ {fn:Func} (hr:Rel F e D PS w) (hf:zy (Mut F D) e w fr a.tmps) (h:wK P fr PS (jg fun x=>K x PS) fn.results.toList):
  ∃v x,(results fn a.tmps).run P w=.ok v w∧zH (Mut F D) e w x v∧K x PS:=by
 obtain⟨l,vs,h1,h2,h3,h4⟩:=zN7 hr hf _ _ h
 have hrun:(results fn a.tmps).run P w=.ok (if h:vs.toArray.size=1 then vs.toArray[0] else .tuple vs.toArray) w:=by
  rw[zOG,Array.mapM_eq_mapM_toList]
  show Sem.run P (((fn.results.toList.mapM (xg a.tmps))>>=fun l=>pure l.toArray)>>=fun vs=>pure _) w=_
  simp only[Sem.run_bind,h1,Result.andThen_ok,Sem.run_pure]
 rcases l with _ | ⟨x,_ | ⟨y,l⟩⟩<;>rcases vs with _ | ⟨u,_ | ⟨v,vs⟩⟩<;>simp only[List.length_nil,List.length_cons] at h2<;>try omega
 ·exact⟨.tuple #[],.tup [],by rw[hrun];simp,.tup [] #[] rfl (by simp),h4⟩
 ·exact⟨u,x,by rw[hrun];simp,h3 0 x u rfl rfl,h4⟩
 ·exact⟨.tuple (u::v::vs).toArray,.tup (x::y::l),by rw[hrun];simp,.tup _ _ (by simp;omega) (fun i z q hz hq=>h3 i z q hz (by simpa using hq)),h4⟩
theorem Gs {args:List HV} {vs:Array Value} (n:Nat) (h:zy M e w args vs):zy M e w (vE n args) (vs++Array.replicate (n - vs.size) undef):=by
 unfold vE
 rw[h.1]
 refine h.append ⟨by simp,fun i x u hi _=>?_⟩
 have:=(List.mem_replicate.1 (List.mem_of_getElem? hi)).2
 subst this
 exact .junk _
/-- The contract of a function,out of its text. -/
theorem zMP {f:FuncId} {fn:Func} {c:Code} {args:List HV} (hdr:Ug P hdraw) (hfn:P.funcs[f]? =some fn) (hb:fn.body=some c)
  (h:hvc (hop P) hdraw c (je P fn.results.toList K) (vE fn.ntmps args) PS):zI P f args PS K:=by
 intro F e D w vs hr hf
 refine calls_of_wp hfn hb (wp_mono (Yj UN (hdr.at [] F e D w) c _ (vE fn.ntmps args) PS _ w h (F:=F) (e0:=e) (D0:=D) (w0:=w) ⟨rfl,e,D,hr,Gs _ hf,.refl e D w⟩) ?_)
 rintro x a w' ⟨x',fr,PS',rfl,hq,hd,e',D',hr',hf',ht'⟩
 cases x' with
 | normal=>
  obtain⟨v,y,h1,h2,h3⟩:=XZ hr' hf' hq
  exact⟨hd,v,h1,v,y,PS',e',D',rfl,h3,hr',ht',h2⟩
 | ret=>
  obtain⟨v,y,h1,h2,h3⟩:=XZ hr' hf' hq
  exact⟨hd,v,h1,v,y,PS',e',D',rfl,h3,hr',ht',h2⟩
 | exit id=>exact hq.elim
 | goto l=>exact hq.elim
/-- A function that only computes,on data:its contract. -/
def Pure (P:Program) (f:FuncId) (args:List HV) (res:HV):Prop:=∀PS,zI P f args PS fun x PS'=>x=res∧PS'=PS
theorem Pure.call {f:FuncId} {args:List HV} {res:HV} (h:Pure P f args res) (hk:K res PS):zI P f args PS K:=
 (h PS).mono (by rintro x PS' ⟨rfl,rfl⟩;exact hk)
end
end Go.Eng
namespace Go.Eng
open Go
variable [zB]
section
variable {P:Program} {PS PS':PL} {K K':HV→Prop}
theorem Gc {q:zC} {v i:Nat} {K K':List HV→Prop} (hk:∀v,K v→K' v) (h:zd q v i K):zd q v i K':=by
 unfold zd at*;cases q<;>first | exact h.elim | exact⟨h.1,h.2.imp fun l hl=>⟨hl.1,hk _ hl.2⟩⟩
theorem Vs {s:Nat} {K K':List HV→Prop} (hk:∀v,K v→K' v) {x:HV} (h:qK PS s K x):qK PS s K' x:=by
 unfold qK at*;cases x<;>first | exact h.elim | exact Gc (fun v hv=>⟨hv.1,hk _ hv.2⟩) h | exact⟨h.1,hk _ h.2⟩
theorem zJT (hk:∀v,K v→K' v) {l:List HV} (h:yE K l):yE K' l:=by
 unfold yE at*;split at h<;>first | exact hk _ h | exact h.elim
theorem zP6 (hk:∀v,K v→K' v) {x:HV} {o:Option (Bool×Nat)} (h:wB PS x K o):wB PS x K' o:=by
 unfold wB at*
 split at h
 ·exact Vs (fun v=>hk _) h
 ·exact Vs (fun v=>zJT hk) h
 ·exact h
theorem zF9 (hk:∀v,K v→K' v) {x:HV} (h:wg PS x K):wg PS x K':=by
 unfold wg at*;split at h<;>first | exact⟨h.1,hk _ h.2⟩ | exact hk _ h | exact h.elim
theorem zJI (hk:∀v,K v→K' v) {c x y:HV} (h:vt c x y K):vt c x y K':=by
 unfold vt at*;cases c<;>first | exact⟨fun e=>hk _ (h.1 e),fun e=>hk _ (h.2 e)⟩ | exact h.elim
theorem QP (hk:∀v,K v→K' v) {k:IntKind} {n:Int} (h:wN k n K):wN k n K':=by
 cases k<;>first | exact⟨h.1,hk _ h.2⟩ | exact hk _ h
theorem xw (hk:∀v,K v→K' v) {op:BinOp} {k k':IntKind} {a b:Int} (h:hint op k a k' b K):hint op k a k' b K':=by
 cases op<;>first | exact⟨h.1,hk _ h.2⟩ | exact⟨h.1,QP hk h.2⟩ | exact⟨h.1,h.2.1,QP hk h.2.2⟩ | exact⟨h.1,h.2.1,hk _ h.2.2⟩
theorem US (hk:∀v,K v→K' v) {op:BinOp} {a b:List UInt8} (h:vP op a b K):vP op a b K':=by
 cases op<;>first | exact hk _ h | exact⟨h.1,hk _ h.2⟩ | exact h.elim
theorem ux (hk:∀v,K v→K' v) {op:BinOp} {r:Bool} (h:hbt op r K):hbt op r K':=by
 cases op<;>first | exact hk _ h | exact h.elim
theorem zKt (hk:∀v,K v→K' v) {op:BinOp} {t:TypeId} {x y:HV} (h:qu P PS op t x y K):qu P PS op t x y K':=by
 unfold qu at*
 split at h
 ·exact xw hk h
 ·exact US hk h
 ·exact⟨h.1,ux hk h.2⟩
 ·exact⟨h.1,h.2.1,ux hk h.2.2⟩
 ·exact⟨h.1,ux hk h.2⟩
 ·exact⟨h.1,ux hk h.2⟩
 ·exact⟨h.1,h.2.1,h.2.2.1,h.2.2.2.1,ux hk h.2.2.2.2⟩
 ·unfold kz at*
  split at h
  ·exact⟨h.1,ux hk h.2⟩
  ·exact h
 ·exact xw (fun v=>UK hk) h
 ·exact xw (fun v=>UK hk) h
 ·exact xw (fun v=>UK hk) h
 ·exact US hk h
 ·exact US hk h
 ·exact US hk h
 ·exact h
theorem zR9 (hk:∀v,K v→K' v) {op:UnOp} {x:HV} (h:hun op x K):hun op x K':=by
 unfold hun at*
 split at h
 ·exact QP hk h
 ·exact hk _ h
 ·exact hk _ h
 ·exact h.elim
theorem zPw (hk:∀v,K v→K' v) {x:HV} {o:Option (Nat×Nat)} (h:qd PS x K o):qd PS x K' o:=by
 unfold qd at*
 split at h
 ·cases x<;>first | exact⟨h.1,hk _ h.2⟩ | exact hk _ h | exact h.elim
 ·exact h
theorem zLl (hk:∀v,K v→K' v) {t:TypeId} {x i:HV} (h:wi P PS t x i K):wi P PS t x i K':=by
 unfold wi at*
 split at h
 ·unfold vO at*
  split at h
  ·split at h
   ·exact⟨h.1,h.2.imp fun l hl=>⟨hl.1,hl.2.1,hk _ hl.2.2⟩⟩
   ·exact⟨h.1,h.2.1,Gc (fun v hv=>⟨hv.1,hk _ hv.2⟩) h.2.2⟩
   ·exact⟨h.1,h.2.1,h.2.2.1,hk _ h.2.2.2⟩
   ·exact h
  ·exact h
 ·unfold ve at*
  split at h
  ·split at h
   ·exact⟨h.1,h.2.1,h.2.2.1,hk _ h.2.2.2⟩
   ·exact⟨h.1,h.2.1,hk _ h.2.2⟩
   ·exact h
  ·exact h
theorem zAi (hk:∀v,K v→K' v) {b:Bool} {s off:Nat} {l:List HV} (h:uB b s off l K):uB b s off l K':=by
 unfold uB at*
 split at h
 ·rename_i hb;rw[if_pos hb];exact⟨h.1,hk _ h.2⟩
 ·rename_i hb;rw[if_neg hb];exact h.imp fun y hy=>⟨hy.1,hk _ hy.2⟩
theorem zGl (hk:∀v,K v→K' v) {t:TypeId} {x i:HV} (h:vc P t x i K):vc P t x i K':=by
 unfold vc at*
 split at h
 ·split at h
  ·exact⟨h.1,h.2.imp fun l hl=>⟨hl.1,hk _ hl.2⟩⟩
  ·exact h
 ·split at h
  ·refine⟨h.1,h.2.1,?_⟩
   have h:=h.2.2
   split at h
   ·exact zAi hk h
   ·exact h
  ·exact h
 ·exact h
theorem zOR (hk:∀v,K v→K' v) {x:HV} {i:Nat} (h:wy x i K):wy x i K':=by
 unfold wy at*
 cases x<;>first | exact h.elim | exact h.imp fun y hy=>⟨hy.1,hk _ hy.2⟩
theorem zPD (hk:∀v,K v→K' v) {t:TypeId} {x:HV} {f:Nat} (h:jI P t x f K):jI P t x f K':=by
 unfold jI at*
 split at h
 ·split at h
  ·split at h
   ·exact zAi hk h
   ·exact h
  ·exact h
 ·exact h
theorem Yb {K K':Int→Prop} (hk:∀v,K v→K' v) {x:Option HV} {d:Int} (h:vH x d K):vH x d K':=by
 unfold vH at*;split at h<;>first | exact hk _ h | exact h.elim
theorem vY {K K':Nat→Nat→Option Nat→Prop} (hk:∀l h m,K l h m→K' l h m) {len lim:Nat} {l h m:Option HV} (hh:qV len lim l h m K):qV len lim l h m K':=by
 unfold qV at*
 refine Yb (fun a ha=>Yb (fun b hb=>?_) ha) hh
 split at hb
 ·exact⟨hb.1,hb.2.1,hb.2.2.1,hk _ _ _ hb.2.2.2⟩
 ·exact⟨hb.1,hb.2.1,hb.2.2.1,hb.2.2.2.1,hb.2.2.2.2.1,hk _ _ _ hb.2.2.2.2.2⟩
 ·exact hb
theorem zLf (hk:∀v,K v→K' v) {s:Nat} {x:HV} {l h m:Option HV} (hh:wh PS s x l h m K):wh PS s x l h m K':=by
 unfold wh at*
 split at hh
 ·exact⟨hh.1,vY (fun l h m hm=>by cases m<;>exact hk _ hm) hh.2⟩
 ·exact⟨hh.1,hh.2.1,vY (fun l h m hm=>by cases m<;>exact hk _ hm) hh.2.2⟩
 ·exact⟨hh.1,vY (fun l h m hm=>by cases m<;>exact hk _ hm) hh.2⟩
 ·exact hh
theorem zBg (hk:∀v,K v→K' v) {N s:Nat} {x:HV} {l h m:Option HV} (hh:wT PS N s x l h m K):wT PS N s x l h m K':=by
 unfold wT at*
 split at hh
 ·exact⟨hh.1,hh.2.1,vY (fun l h m hm=>hk _ hm) hh.2.2⟩
 ·exact⟨hh.1,hh.2.1,hh.2.2.1,vY (fun l h m hm=>hk _ hm) hh.2.2.2⟩
 ·exact hh
theorem zNo (hk:∀v,K v→K' v) {t:TypeId} {x:HV} {l h m:Option HV} (hh:wm P PS t x l h m K):wm P PS t x l h m K':=by
 unfold wm at*
 split at hh
 ·unfold jh at*
  cases x<;>first | exact⟨hh.1,vY (fun l h m hm=>hk _ hm) hh.2⟩ | exact hh.elim
 ·split at hh
  ·exact zLf hk hh
  ·exact hh
 ·split at hh
  ·exact zBg hk hh
  ·exact hh
 ·split at hh
  ·exact zBg hk hh
  ·exact hh
 ·exact hh
theorem Gp (hk:∀v,K v→K' v) {k:IntKind} {n:Int} (h:vg k n K):vg k n K':=by
 cases k<;>first | exact⟨h.1,hk _ h.2⟩ | exact hk _ h
theorem Gx {K K':List (List HV)→Prop} (hk:∀v,K v→K' v) {s:Nat} {x:HV} (h:zz PS s x K):zz PS s x K':=by
 unfold zz at*
 split at h
 ·exact⟨h.1,hk _ h.2⟩
 ·split at h
  ·exact⟨h.1,h.2.1,h.2.2.1,hk _ h.2.2.2⟩
  ·exact h
 ·exact⟨h.1,Gc (fun l hl=>⟨hl.1,hk _ hl.2⟩) h.2⟩
 ·exact h
theorem zAd (hk:∀v,K v→K' v) {s d:TypeId} {x:HV} (h:wc P PS s d x K):wc P PS s d x K':=by
 unfold wc at*
 split at h
 ·exact h
 ·split at h
  ·cases x<;>first | exact Gp hk h | exact Gp (fun v=>UK hk) h | exact h.elim
  ·split at h
   ·exact hk _ h
   ·exact⟨h.1,Gx (fun E hE=>hE.imp fun l hl=>⟨hl.1,hk _ hl.2⟩) h.2⟩
   ·exact h
  ·exact h
theorem zOo (hk:∀v,K v→K' v) {s d:TypeId} {x:HV} (h:wV P PS s d x K):wV P PS s d x K':=by
 unfold wV at*
 split at h
 ·split at h
  ·unfold ZG at*
   split at h
   ·exact⟨h.1,h.2.1,h.2.2.1,hk _ h.2.2.2⟩
   ·exact h
  ·exact zAd hk h
 ·exact zAd hk h
theorem zBy {K K':List HV→Prop} (hk:∀v,K v→K' v) {t:TypeId}:∀(ps:List (Nat×HV)) (l:List HV),qW P t K l ps→qW P t K' l ps:=by
 intro ps
 induction ps with
 | nil=>intro l h;exact hk _ h
 | cons p ps ih=>
  intro l h
  obtain⟨i,x⟩:=p
  simp only[qW] at h ⊢
  split at h
  ·exact h
  ·exact⟨h.1,h.2.1,h.2.2.1,ih _ h.2.2.2⟩
theorem zIa (hk:∀v,K v→K' v) {t:TypeId} {ps:List (Nat×HV)} (h:uK P t ps K):uK P t ps K':=by
 unfold uK at*
 refine⟨h.1,?_⟩
 have h:=h.2
 split at h
 ·exact zBy (fun l=>hk _) _ _ h
 ·exact h
theorem VB {K K':List HV→Prop} (hk:∀v,K v→K' v) {x:HV} (h:hst x K):hst x K':=by
 unfold hst at*;split at h<;>exact⟨h.1,hk _ h.2⟩
theorem zE7 {K K':List (List HV)→Prop} (hk:∀v,K v→K' v) {s:Nat}:∀(ps:List (Nat×HV)) (E:List (List HV)),vV s K E ps→vV s K' E ps:=by
 intro ps
 induction ps with
 | nil=>intro l h;exact hk _ h
 | cons p ps ih=>
  intro E h
  obtain⟨i,x⟩:=p
  simp only[vV] at h ⊢
  exact VB (fun l hl=>⟨hl.1,hl.2.1,ih _ hl.2.2⟩) h
theorem zPS (hk:∀v,K v→K' v) {n:Nat} {ps:List (Nat×HV)} {o:Option (Nat×Nat×List HV)} (h:vn n ps K o):vn n ps K' o:=by
 unfold vn at*
 split at h
 ·exact⟨h.1,h.2.1,zE7 (fun E=>hk _) _ _ h.2.2⟩
 ·exact h
theorem zKT (hk:∀v,K v→K' v) {t:TypeId} {x:HV} (h:uS P t x K):uS P t x K':=by
 unfold uS at*
 split at h<;>first | exact hk _ h | exact h
theorem Qs (hk:∀v,K v→K' v) {t:TypeId} {x:HV} (h:hlen P PS t x K):hlen P PS t x K':=by
 unfold hlen at*
 split at h
 ·cases x with
  | str s=>exact hk _ h
  | stok i=>
   simp only at h ⊢
   cases hj:zB.slen i with
   | none=>rw[hj] at h;exact h.elim
   | some j=>rw[hj] at h;exact hk _ h
  | _=>exact h.elim
 ·cases x<;>first | exact fun e=>hk _ (h e) | exact⟨h.1,fun e=>hk _ (h.2 e)⟩ | exact zBe hk h | exact h.elim
 ·exact hk _ h
 ·split at h
  ·exact hk _ h
  ·exact h
 ·exact h
theorem zNA (hk:∀v,K v→K' v) {m ix:HV} {ok:Bool} {z:Option (IntKind×HV)} (h:wZ PS m ix ok K z):wZ PS m ix ok K' z:=by
 unfold wZ at*
 split at h
 ·split at h
  ·unfold qT at*
   split at h
   ·exact⟨h.1,h.2.1,h.2.2.1,hk _ h.2.2.2⟩
   ·exact h
  ·unfold jD at*
   split at h
   ·exact⟨h.1,h.2.1,h.2.2.1,h.2.2.2.1,hk _ h.2.2.2.2⟩
   ·exact⟨h.1,h.2.1,h.2.2.1,h.2.2.2.1,hk _ h.2.2.2.2⟩
   ·exact h
  ·exact h
 ·exact h
theorem Ui (hk:∀v,K v→K' v) {b:Bool} {l:List HV} (h:vS b K l):vS b K' l:=by
 unfold vS at*
 split at h
 ·exact⟨h.1,hk _ h.2⟩
 ·exact h
end
end Go.Eng
namespace Go.Eng
open Go
variable [zB]
/-- The operations that leave the pieces as they are. -/
def zT (P:Program) (o:Oper) (fr:Fr) (PS:PL) (K:HV→Prop):Prop:=
 match o.op with
 | .move x=>K (ev fr x)
 | .assign x=>K (ev fr x)
 | .pick c x y=>vt (ev fr c) (ev fr x) (ev fr y) K
 | .load t x=>wB PS (ev fr x) K (tsz P t)
 | .nilCheck x=>wg PS (ev fr x) K
 | .binOp op t x y _=>qu P PS op t (ev fr x) (ev fr y) K
 | .unOp op _ x=>hun op (ev fr x) K
 | .convert s d x=>wV P PS s d (ev fr x) K
 | .fieldAddr s x f=>qd PS (ev fr x) K (yX P s f)
 | .field t x f=>jI P t (ev fr x) f K
 | .indexAddr t x i=>wi P PS t (ev fr x) (ev fr i) K
 | .index t x i=>vc P t (ev fr x) (ev fr i) K
 | .extract x i=>wy (ev fr x) i K
 | .slice t x l h m=>wm P PS t (ev fr x) (l.map (ev fr)) (h.map (ev fr)) (m.map (ev fr)) K
 | .build t ps=>uK P t (ps.toList.map fun p=>(p.1,ev fr p.2)) K
 | .buildSlice t n ps=>vn n (ps.toList.map fun p=>(p.1,ev fr p.2)) K (yV P t)
 | .makeInterface t x=>uS P t (ev fr x) K
 | .lookup t m x ok=>wZ PS (ev fr m) (ev fr x) ok K (qA P t)
 | .makeFunc fn f c=>K (.func fn (f.toList.map (ev fr)) (c.toList.map (ev fr)))
 | .call ⟨.builtin .len,args,ts⟩=>(match ts.toList,args.toList.map (ev fr) with | [t],[x]=>hlen P PS t x K | _,_=>False)
 | .call ⟨.builtin .min,args,_⟩=>vS false K (args.toList.map (ev fr))
 | .call ⟨.builtin .max,args,_⟩=>vS true K (args.toList.map (ev fr))
 | _=>False
/-- 0:hangs on no piece;1:on how pieces are shaped;2:on what they hold;3:makes a piece;4:writes cells;5:all else. -/
def cls (o:Oper):Nat:=
 match o.op with
 | .move _ | .assign _ | .pick .. | .unOp .. | .field .. | .index .. | .extract .. | .build .. | .buildSlice .. | .makeInterface .. | .makeFunc .. =>0
 | .call ⟨.builtin .min,_,_⟩ | .call ⟨.builtin .max,_,_⟩=>0
 | .binOp _ _ _ y _=>if vw y then 5 else 1
 | .nilCheck _ | .fieldAddr .. | .indexAddr .. | .slice .. =>1
 | .call ⟨.builtin .len,_,_⟩=>1
 | .load .. | .convert .. | .lookup .. =>2
 | .alloc _ | .box .. | .makeSlice .. =>3
 | .store .. =>4
 | _=>5
section
variable {P:Program} {PS PS':PL} {fr fr':Fr} {o:Oper}
theorem GB (h:cls o≤2) (K:HV→PL→Prop):hop P o fr PS K=zT P o fr PS (fun v=>K v PS):=by
 obtain⟨dst,op,ty,pos,after,guard⟩:=o
 cases op with
 | call c=>
  obtain⟨callee,args,ts⟩:=c
  cases callee with
  | builtin b=>
   cases b<;>first | (simp only[cls] at h;omega) | skip
   ·rcases ts with ⟨_ | ⟨t,_ | ⟨t2,ts⟩⟩⟩<;>rcases args with ⟨_ | ⟨x,_ | ⟨y,args⟩⟩⟩<;>simp[hop,zT,vj]
   ·simp only[hop,zT,vj]
   ·simp only[hop,zT,vj]
  | _=>simp only[cls] at h;omega
 | binOp op t x y t2=>
  cases hy:vw y
  ·simp only[hop,zT,jq,hy,Bool.false_eq_true,if_false]
  ·simp only[cls,hy,if_true] at h;omega
 | _=>first | rfl | (simp only[cls] at h;omega)
theorem zDW {K K':HV→Prop} (hk:∀v,K v→K' v) (h:zT P o fr PS K):zT P o fr PS K':=by
 obtain⟨dst,op,ty,pos,after,guard⟩:=o
 cases op with
 | move x=>exact hk _ h
 | assign x=>exact hk _ h
 | pick c x y=>exact zJI hk h
 | load t x=>exact zP6 hk h
 | nilCheck x=>exact zF9 hk h
 | binOp op t x y _=>exact zKt hk h
 | unOp op _ x=>exact zR9 hk h
 | convert s d x=>exact zOo hk h
 | fieldAddr s x f=>exact zPw hk h
 | field t x f=>exact zPD hk h
 | indexAddr t x i=>exact zLl hk h
 | index t x i=>exact zGl hk h
 | extract x i=>exact zOR hk h
 | slice t x l h' m=>exact zNo hk h
 | build t ps=>exact zIa hk h
 | buildSlice t n ps=>exact zPS hk h
 | makeInterface t x=>exact zKT hk h
 | lookup t m x ok=>exact zNA hk h
 | makeFunc fn f c=>exact hk _ h
 | call c=>
  obtain⟨callee,args,ts⟩:=c
  cases callee with
  | builtin b=>
   cases b<;>first | exact h.elim | skip
   ·simp only[zT] at h ⊢
    split at h
    ·exact Qs hk h
    ·exact h
   ·exact Ui hk h
   ·exact Ui hk h
  | _=>exact h.elim
 | _=>exact h.elim
/-- Pieces that were there are as they were. -/
def Pre (PS PS':PL):Prop:=∀n,zA PS n=.dead∨zA PS' n=zA PS n
/-- Pieces that were there are shaped as they were. -/
def Shp (PS PS':PL):Prop:=∀n ver sz E opn,zA PS n=.arr ver sz E opn→∃E',zA PS' n=.arr ver sz E' opn∧E'.length=E.length∧∀(i:Nat) (l:List HV),E[i]? =some l→∃l':List HV,E'[i]? =some l'∧l'.length=l.length
theorem Pre.refl (PS:PL):Pre PS PS:=fun _=>.inr rfl
theorem Pre.shp (h:Pre PS PS'):Shp PS PS':=fun n ver sz E opn hq=>by
 rcases h n with h | h
 ·rw[h] at hq;cases hq
 ·exact⟨E,h.trans hq,rfl,fun i l hl=>⟨l,hl,rfl⟩⟩
theorem Shp.live (h:Shp PS PS') {n ver:Nat} (hl:qJ (zA PS n) ver):qJ (zA PS' n) ver:=by
 cases hq:zA PS n with
 | arr ver' sz E opn=>
  rw[hq] at hl
  obtain⟨rfl,hE⟩:=hl
  obtain⟨E',h1,h2,_⟩:=h n ver sz E opn hq
  rw[h1]
  refine⟨rfl,hE.imp id fun hE=>?_⟩
  rintro rfl
  exact hE (List.eq_nil_of_length_eq_zero h2.symm)
 | dead=>rw[hq] at hl;exact hl.elim
 | map _ _ _ _=>rw[hq] at hl;exact hl.elim
 | mapT _ _ _ _=>rw[hq] at hl;exact hl.elim
 | iter _ _ _ _ _=>rw[hq] at hl;exact hl.elim
 | rnd _ _ _ _ _ _ _ _=>rw[hq] at hl;exact hl.elim
theorem Shp.lim (h:Shp PS PS') {n i len s:Nat} {cp:Option Nat} (hl:hsz (zA PS n) s):uN (zA PS' n) i len cp=uN (zA PS n) i len cp:=by
 cases cp with
 | some c=>rfl
 | none=>
  cases hq:zA PS n with
  | arr ver' sz E opn=>
   obtain⟨E',h1,h2,_⟩:=h _ _ _ _ _ hq
   rw[h1]
   simp only[uN,uy,h2]
  | _=>rw[hq] at hl;exact hl.elim
theorem Shp.szl (h:Shp PS PS') {n ver k k':Nat} (hl:xY (zA PS n) ver k k'):xY (zA PS' n) ver k k':=by
 unfold xY at hl
 split at hl
 ·rename_i v sz E opn hq
  obtain⟨E',h1,h2,_⟩:=h n v sz E opn hq
  rw[h1]
  refine⟨hl.1,hl.2.1.imp id fun h0 h1=>h0 ?_,hl.2.2⟩
  rw[h1] at h2
  exact List.eq_nil_of_length_eq_zero h2.symm
 ·exact hl.elim
theorem Shp.ver (h:Shp PS PS') {n ver:Nat} (hl:qM (zA PS n) ver):qM (zA PS' n) ver:=by
 cases hq:zA PS n with
 | arr ver' sz E opn=>
  rw[hq] at hl
  obtain rfl:=hl
  obtain⟨E',h1,h2,_⟩:=h n ver sz E opn hq
  rw[h1];rfl
 | dead=>rw[hq] at hl;exact hl.elim
 | map _ _ _ _=>rw[hq] at hl;exact hl.elim
 | mapT _ _ _ _=>rw[hq] at hl;exact hl.elim
 | iter _ _ _ _ _=>rw[hq] at hl;exact hl.elim
 | rnd _ _ _ _ _ _ _ _=>rw[hq] at hl;exact hl.elim
theorem Shp.sz (h:Shp PS PS') {n s:Nat} (hl:hsz (zA PS n) s):hsz (zA PS' n) s:=by
 cases hq:zA PS n with
 | arr ver' sz E opn=>
  rw[hq] at hl
  obtain⟨E',h1,h2,_⟩:=h n ver' sz E opn hq
  rw[h1];exact hl
 | dead=>rw[hq] at hl;exact hl.elim
 | map _ _ _ _=>rw[hq] at hl;exact hl.elim
 | mapT _ _ _ _=>rw[hq] at hl;exact hl.elim
 | iter _ _ _ _ _=>rw[hq] at hl;exact hl.elim
 | rnd _ _ _ _ _ _ _ _=>rw[hq] at hl;exact hl.elim
theorem Shp.row (h:Shp PS PS') {n ver i s:Nat} {X:Prop} (hl:zd (zA PS n) ver i fun l=>l.length=s∧X):zd (zA PS' n) ver i fun l=>l.length=s∧X:=by
 cases hq:zA PS n with
 | arr ver' sz E opn=>
  rw[hq] at hl
  obtain⟨rfl,l,hl1,hl2⟩:=hl
  obtain⟨E',h1,h2,h3⟩:=h n ver sz E opn hq
  obtain⟨l',h4,h5⟩:=h3 i l hl1
  rw[h1];exact⟨rfl,l',h4,by omega,hl2.2⟩
 | dead=>rw[hq] at hl;exact hl.elim
 | map _ _ _ _=>rw[hq] at hl;exact hl.elim
 | mapT _ _ _ _=>rw[hq] at hl;exact hl.elim
 | iter _ _ _ _ _=>rw[hq] at hl;exact hl.elim
 | rnd _ _ _ _ _ _ _ _=>rw[hq] at hl;exact hl.elim
theorem Pre.row (h:Pre PS PS') {n ver i:Nat} {K:List HV→Prop} (hl:zd (zA PS n) ver i K):zd (zA PS' n) ver i K:=by
 rcases h n with h | h
 ·rw[h] at hl;exact hl.elim
 ·rwa [h]
theorem zEP (h:Pre PS PS') {s:Nat} {K:List HV→Prop} {x:HV} (hc:qK PS s K x):qK PS' s K x:=by
 unfold qK at*;cases x<;>first | exact hc.elim | exact h.row hc | exact hc
theorem zJH (h:Pre PS PS') {s:Nat} {K:List (List HV)→Prop} {x:HV} (hc:zz PS s x K):zz PS' s x K:=by
 unfold zz at*
 cases x with
 | sl n ver i len cp=>
  simp only at hc ⊢
  rcases h n with h | h
  ·rw[h] at hc;exact hc.elim
  ·rwa [h]
 | isl n ver i k len cp=>exact⟨hc.1,h.row hc.2⟩
 | _=>exact hc
theorem zFI (hs:Shp PS PS') (hcl:cls o≤1) {K:HV→Prop} (h:zT P o fr PS K):zT P o fr PS' K:=by
 obtain⟨dst,op,ty,pos,after,guard⟩:=o
 cases op with
 | nilCheck x=>
  simp only[zT] at h ⊢
  unfold wg at*
  split at h<;>first | exact⟨hs.live h.1,h.2⟩ | exact h
 | binOp op t x y _=>
  simp only[zT] at h ⊢
  unfold qu at*
  split at h<;>first | exact h | exact⟨hs.live h.1,h.2⟩ | exact⟨h.1,h.2.1,hs.szl h.2.2.1,h.2.2.2⟩
 | lookup t m x ok=>simp[cls] at hcl
 | fieldAddr s x f=>
  simp only[zT] at h ⊢
  unfold qd at*
  split at h
  ·split at h<;>first | exact⟨hs.live h.1,h.2⟩ | exact h
  ·exact h
 | indexAddr t x i=>
  simp only[zT] at h ⊢
  unfold wi at*
  split at h
  ·unfold vO at*
   split at h
   ·split at h
    ·exact h
    ·exact⟨h.1,h.2.1,hs.row h.2.2⟩
    ·exact⟨h.1,h.2.1,hs.live h.2.2.1,h.2.2.2⟩
    ·exact h
   ·exact h
  ·unfold ve at*
   split at h
   ·split at h
    ·exact⟨h.1,h.2.1,hs.live h.2.2.1,h.2.2.2⟩
    ·exact h
    ·exact h
   ·exact h
 | slice t x l hh m=>
  simp only[zT] at h ⊢
  unfold wm at*
  split at h
  ·exact h
  ·split at h
   ·unfold wh at*
    split at h
    ·exact h
    ·exact⟨hs.live h.1,hs.sz h.2.1,by rw[hs.lim h.2.1];exact h.2.2⟩
    ·exact⟨hs.live h.1,h.2⟩
    ·exact h
   ·exact h
  ·split at h
   ·unfold wT at*
    split at h
    ·exact⟨h.1,hs.live h.2.1,h.2.2⟩
    ·exact h
    ·exact h
   ·exact h
  ·split at h
   ·unfold wT at*
    split at h
    ·exact⟨h.1,hs.live h.2.1,h.2.2⟩
    ·exact h
    ·exact h
   ·exact h
  ·exact h
 | call c=>
  obtain⟨callee,args,ts⟩:=c
  cases callee with
  | builtin b=>
   cases b<;>first | exact h.elim | skip
   ·simp only[zT] at h ⊢
    split at h
    ·unfold hlen at*
     split at h
     ·exact h
     ·split at h<;>first | exact h | exact⟨hs.ver h.1,h.2⟩
     ·exact h
     ·exact h
     ·exact h
    ·exact h
   ·exact h
   ·exact h
  | _=>exact h.elim
 | load t x=>simp[cls] at hcl
 | convert s d x=>simp[cls] at hcl
 | _=>first | exact h | exact h.elim
theorem zOE (hs:Pre PS PS') {n:Nat} {C:Nat→Nat→IntKind→qf→Prop} (h:qT (zA PS n) C):qT (zA PS' n) C:=by
 rcases hs n with h2 | h2
 ·rw[h2] at h;exact h.elim
 ·rw[h2];exact h
theorem zNW (hs:Pre PS PS') {n:Nat} {C:Nat→Nat→IntKind→jG→Prop} (h:jD (zA PS n) C):jD (zA PS' n) C:=by
 rcases hs n with h2 | h2
 ·rw[h2] at h;exact h.elim
 ·rw[h2];exact h
theorem zGw (hs:Pre PS PS') (hcl:cls o≤2) {K:HV→Prop} (h:zT P o fr PS K):zT P o fr PS' K:=by
 by_cases h1:cls o≤1
 ·exact zFI hs.shp h1 h
 ·obtain⟨dst,op,ty,pos,after,guard⟩:=o
  cases op with
  | load t x=>
   simp only[zT] at h ⊢
   unfold wB at*
   split at h
   ·exact zEP hs h
   ·exact zEP hs h
   ·exact h
  | convert s d x=>
   simp only[zT] at h ⊢
   have main:∀x,wc P PS s d x K→wc P PS' s d x K:=by
    intro x h
    unfold wc at*
    split at h
    ·exact h
    ·split at h
     ·exact h
     ·split at h
      ·exact h
      ·exact⟨h.1,zJH hs h.2⟩
      ·exact h
     ·exact h
   unfold wV at*
   split at h
   ·split at h
    ·exact h
    ·exact main _ h
   ·exact main _ h
  | lookup t m x ok=>
   simp only[zT] at h ⊢
   unfold wZ at*
   split at h
   ·split at h
    ·exact zOE hs h
    ·exact zNW hs h
    ·exact h
   ·exact h
  | binOp op t x y t2=>cases hy:vw y<;>simp[cls,hy] at h1 hcl
  | call c=>
   obtain⟨callee,args,ts⟩:=c
   cases callee with
   | builtin b=>cases b<;>(simp[cls] at h1 hcl)
   | _=>simp[cls] at hcl
  | _=>first | (simp[cls] at h1;done) | (simp[cls] at hcl;done)
theorem zRI (hcl:cls o=0) {K:HV→Prop} (h:zT P o fr PS K):zT P o fr PS' K:=by
 obtain⟨dst,op,ty,pos,after,guard⟩:=o
 cases op with
 | call c=>
  obtain⟨callee,args,ts⟩:=c
  cases callee with
  | builtin b=>cases b<;>first | exact h | (simp[cls] at hcl;done)
  | _=>simp[cls] at hcl
 | binOp op t x y t2=>cases hy:vw y<;>simp[cls,hy] at hcl
 | _=>first | exact h | (simp[cls] at hcl;done)
end
end Go.Eng
namespace Go.Eng
open Go
variable [zB]
section
variable {P:Program} {PS PS':PL} {K:HV→Prop}
theorem JQ {q:zC} {v i:Nat} {α:Type} {C:List HV→Prop} {f:List HV→α} {K:α→Prop} (h:zd q v i fun l=>C l∧K (f l)):∃x,(zd q v i fun l=>C l∧f l=x)∧K x:=by
 unfold zd at*;cases q<;>first | exact h.elim | skip
 obtain⟨h1,l,h2,h3,h4⟩:=h
 exact⟨f l,⟨h1,l,h2,h3,rfl⟩,h4⟩
theorem zA4 {s:Nat} {α:Type} {f:List HV→α} {K:α→Prop} {x:HV} (h:qK PS s (fun l=>K (f l)) x):∃y,qK PS s (fun l=>f l=y) x∧K y:=by
 unfold qK at*;cases x<;>first | exact h.elim | skip
 ·exact⟨_,⟨h.1,rfl⟩,h.2⟩
 ·exact JQ (f:=fun l=>f ((l.drop _).take s)) h
theorem zRq {x:HV} {o:Option (Bool×Nat)} (h:wB PS x K o):∃y,wB PS x (fun v=>v=y) o∧K y:=by
 unfold wB at*
 split at h
 ·exact zA4 (f:=HV.agg) h
 ·-- one cell
  have:qK PS 1 (fun l=>∃y,l=[y]∧K y) x:=Vs (fun l hl=>by unfold yE at hl;split at hl;exact⟨_,rfl,hl⟩;exact hl.elim) h
  obtain⟨l,h1,y,rfl,h2⟩:=zA4 (f:=fun l=>l) (K:=fun l=>∃y,l=[y]∧K y) this
  exact⟨y,Vs (fun l hl=>by subst hl;rfl) h1,h2⟩
 ·exact h.elim
theorem zPL {x:HV} (h:wg PS x K):∃y,wg PS x (fun v=>v=y)∧K y:=by
 unfold wg at*;split at h<;>first | exact⟨_,⟨h.1,rfl⟩,h.2⟩ | exact⟨_,rfl,h⟩ | exact h.elim
theorem zJM {c x y:HV} (h:vt c x y K):∃z,vt c x y (fun v=>v=z)∧K z:=by
 unfold vt at*
 cases c<;>first | exact h.elim | skip
 rename_i b
 cases b
 ·exact⟨y,⟨fun e=>(by cases e),fun _=>rfl⟩,h.2 rfl⟩
 ·exact⟨x,⟨fun _=>rfl,fun e=>(by cases e)⟩,h.1 rfl⟩
theorem Qr {k:IntKind} {n:Int} (h:wN k n K):∃y,wN k n (fun v=>v=y)∧K y:=by
 cases k<;>first | exact⟨_,⟨h.1,rfl⟩,h.2⟩ | exact⟨_,rfl,h⟩
theorem Uy {op:BinOp} {k k':IntKind} {a b:Int} (h:hint op k a k' b K):∃y,hint op k a k' b (fun v=>v=y)∧K y:=by
 cases op<;>first
  | exact⟨_,⟨h.1,rfl⟩,h.2⟩
  | exact⟨_,⟨h.1,h.2.1,rfl⟩,h.2.2⟩
  | (obtain⟨y,h1,h2⟩:=Qr h.2;exact⟨y,⟨h.1,h1⟩,h2⟩)
  | (obtain⟨y,h1,h2⟩:=Qr h.2.2;exact⟨y,⟨h.1,h.2.1,h1⟩,h2⟩)
theorem WV {op:BinOp} {a b:List UInt8} (h:vP op a b K):∃y,vP op a b (fun v=>v=y)∧K y:=by
 cases op<;>first | exact h.elim | exact⟨_,rfl,h⟩ | exact⟨_,⟨h.1,rfl⟩,h.2⟩
theorem Zq {op:BinOp} {r:Bool} (h:hbt op r K):∃z,hbt op r (fun v=>v=z)∧K z:=by
 cases op<;>first | exact h.elim | exact⟨_,rfl,h⟩
theorem zPq {op:BinOp} {t:TypeId} {x y:HV} (h:qu P PS op t x y K):∃z,qu P PS op t x y (fun v=>v=z)∧K z:=by
 unfold qu at*
 split at h
 ·exact Uy h
 ·exact WV h
 ·obtain⟨z,h1,h2⟩:=Zq h.2;exact⟨z,⟨h.1,h1⟩,h2⟩
 ·obtain⟨z,h1,h2⟩:=Zq h.2.2;exact⟨z,⟨h.1,h.2.1,h1⟩,h2⟩
 ·obtain⟨z,h1,h2⟩:=Zq h.2;exact⟨z,⟨h.1,h1⟩,h2⟩
 ·obtain⟨z,h1,h2⟩:=Zq h.2;exact⟨z,⟨h.1,h1⟩,h2⟩
 ·obtain⟨z,h1,h2⟩:=Zq h.2.2.2.2;exact⟨z,⟨h.1,h.2.1,h.2.2.1,h.2.2.2.1,h1⟩,h2⟩
 ·unfold kz at*
  split at h
  ·obtain⟨z,h1,h2⟩:=Zq h.2;exact⟨z,⟨h.1,h1⟩,h2⟩
  ·exact h.elim
 ·obtain⟨z,h1,h2⟩:=Uy h
  obtain⟨z',h3,h4⟩:=QH h2
  exact⟨z',xw (fun v hv=>by rw[hv];exact h3) h1,h4⟩
 ·obtain⟨z,h1,h2⟩:=Uy h
  obtain⟨z',h3,h4⟩:=QH h2
  exact⟨z',xw (fun v hv=>by rw[hv];exact h3) h1,h4⟩
 ·obtain⟨z,h1,h2⟩:=Uy h
  obtain⟨z',h3,h4⟩:=QH h2
  exact⟨z',xw (fun v hv=>by rw[hv];exact h3) h1,h4⟩
 ·exact WV h
 ·exact WV h
 ·exact WV h
 ·exact h.elim
theorem zMQ {op:UnOp} {x:HV} (h:hun op x K):∃z,hun op x (fun v=>v=z)∧K z:=by
 unfold hun at*
 split at h
 ·exact Qr h
 ·exact⟨_,rfl,h⟩
 ·exact⟨_,rfl,h⟩
 ·exact h.elim
theorem zRk {x:HV} {o:Option (Nat×Nat)} (h:qd PS x K o):∃z,qd PS x (fun v=>v=z) o∧K z:=by
 unfold qd at*
 split at h
 ·cases x<;>first | exact h.elim | exact⟨_,⟨h.1,rfl⟩,h.2⟩ | exact⟨_,rfl,h⟩
 ·exact h.elim
theorem zMh {t:TypeId} {x i:HV} (h:wi P PS t x i K):∃z,wi P PS t x i (fun v=>v=z)∧K z:=by
 unfold wi at*
 split at h
 ·unfold vO at*
  split at h
  ·split at h
   ·obtain⟨h1,l,h2,h3,h4⟩:=h;exact⟨_,⟨h1,l,h2,h3,rfl⟩,h4⟩
   ·obtain⟨h1,h2,h3⟩:=h
    obtain⟨z,h4,h5⟩:=JQ (f:=fun _=>HV.ptr _ _ _ 0) h3
    exact⟨z,⟨h1,h2,h4⟩,h5⟩
   ·exact⟨_,⟨h.1,h.2.1,h.2.2.1,rfl⟩,h.2.2.2⟩
   ·exact h.elim
  ·exact h.elim
 ·unfold ve at*
  split at h
  ·split at h
   ·exact⟨_,⟨h.1,h.2.1,h.2.2.1,rfl⟩,h.2.2.2⟩
   ·exact⟨_,⟨h.1,h.2.1,rfl⟩,h.2.2⟩
   ·exact h.elim
  ·exact h.elim
theorem zEq {b:Bool} {s off:Nat} {l:List HV} (h:uB b s off l K):∃z,uB b s off l (fun v=>v=z)∧K z:=by
 unfold uB at*
 cases b
 ·simp only[Bool.false_eq_true,if_false] at*
  obtain⟨y,h1,h2⟩:=h;exact⟨y,⟨y,h1,rfl⟩,h2⟩
 ·simp only[if_true] at*
  exact⟨_,⟨h.1,rfl⟩,h.2⟩
theorem zMN {t:TypeId} {x i:HV} (h:vc P t x i K):∃z,vc P t x i (fun v=>v=z)∧K z:=by
 unfold vc at*
 split at h
 ·split at h
  ·obtain⟨h1,b,h2,h3⟩:=h;exact⟨_,⟨h1,b,h2,rfl⟩,h3⟩
  ·exact h.elim
 ·split at h
  ·obtain⟨h1,h2,h3⟩:=h
   split at h3
   ·obtain⟨z,h4,h5⟩:=zEq h3;exact⟨z,⟨h1,h2,h4⟩,h5⟩
   ·exact h3.elim
  ·exact h.elim
 ·exact h.elim
theorem zNS {x:HV} {i:Nat} (h:wy x i K):∃z,wy x i (fun v=>v=z)∧K z:=by
 unfold wy at*
 cases x<;>first | exact h.elim | (obtain⟨y,h1,h2⟩:=h;exact⟨y,⟨y,h1,rfl⟩,h2⟩)
theorem zRv {t:TypeId} {x:HV} {f:Nat} (h:jI P t x f K):∃z,jI P t x f (fun v=>v=z)∧K z:=by
 unfold jI at*
 split at h
 ·split at h
  ·split at h
   ·exact zEq h
   ·exact h.elim
  ·exact h.elim
 ·exact h.elim
theorem zEl {x:Option HV} {d:Int} {K:Int→Prop} (h:vH x d K):∃n,vH x d (fun m=>m=n)∧K n:=by
 unfold vH at*;split at h<;>first | exact⟨_,rfl,h⟩ | exact h.elim
theorem YE {K:Nat→Nat→Option Nat→Prop} {len lim:Nat} {l h m:Option HV} (hh:qV len lim l h m K):∃a b c,qV len lim l h m (fun a' b' c'=>a'=a∧b'=b∧c'=c)∧K a b c:=by
 unfold qV at*
 obtain⟨a,h1,h2⟩:=zEl hh
 obtain⟨b,h3,h4⟩:=zEl h2
 cases m with
 | none=>
  obtain⟨c1,c2,c3,hK⟩:=h4
  exact⟨_,_,_,Yb (fun a' ha=>by subst ha;exact Yb (fun b' hb=>by subst hb;exact⟨c1,c2,c3,rfl,rfl,rfl⟩) h3) h1,hK⟩
 | some m=>
  cases m<;>first | exact h4.elim | skip
  obtain⟨c1,c2,c3,c4,c5,hK⟩:=h4
  exact⟨_,_,_,Yb (fun a' ha=>by subst ha;exact Yb (fun b' hb=>by subst hb;exact⟨c1,c2,c3,c4,c5,rfl,rfl,rfl⟩) h3) h1,hK⟩
theorem zNU {s:Nat} {x:HV} {l h m:Option HV} (hh:wh PS s x l h m K):∃z,wh PS s x l h m (fun v=>v=z)∧K z:=by
 unfold wh at*
 split at hh
 ·obtain⟨h1,h2⟩:=hh
  obtain⟨a,b,c,h3,h4⟩:=YE h2
  cases c
  ·exact⟨_,⟨h1,vY (fun a' b' c' hx=>by obtain⟨rfl,rfl,rfl⟩:=hx;rfl) h3⟩,h4⟩
  ·exact⟨_,⟨h1,vY (fun a' b' c' hx=>by obtain⟨rfl,rfl,rfl⟩:=hx;rfl) h3⟩,h4⟩
 ·obtain⟨h0,h1,h2⟩:=hh
  obtain⟨a,b,c,h3,h4⟩:=YE h2
  cases c
  ·exact⟨_,⟨h0,h1,vY (fun a' b' c' hx=>by obtain⟨rfl,rfl,rfl⟩:=hx;rfl) h3⟩,h4⟩
  ·exact⟨_,⟨h0,h1,vY (fun a' b' c' hx=>by obtain⟨rfl,rfl,rfl⟩:=hx;rfl) h3⟩,h4⟩
 ·obtain⟨h1,h2⟩:=hh
  obtain⟨a,b,c,h3,h4⟩:=YE h2
  cases c
  ·exact⟨_,⟨h1,vY (fun a' b' c' hx=>by obtain⟨rfl,rfl,rfl⟩:=hx;rfl) h3⟩,h4⟩
  ·exact⟨_,⟨h1,vY (fun a' b' c' hx=>by obtain⟨rfl,rfl,rfl⟩:=hx;rfl) h3⟩,h4⟩
 ·exact hh.elim
theorem zAk {N s:Nat} {x:HV} {l h m:Option HV} (hh:wT PS N s x l h m K):∃z,wT PS N s x l h m (fun v=>v=z)∧K z:=by
 unfold wT at*
 split at hh
 ·obtain⟨h0,h1,h2⟩:=hh
  obtain⟨a,b,c,h3,h4⟩:=YE h2
  exact⟨_,⟨h0,h1,vY (fun a' b' c' hx=>by obtain⟨rfl,rfl,rfl⟩:=hx;rfl) h3⟩,h4⟩
 ·obtain⟨h0,h1,h5,h2⟩:=hh
  obtain⟨a,b,c,h3,h4⟩:=YE h2
  exact⟨_,⟨h0,h1,h5,vY (fun a' b' c' hx=>by obtain⟨rfl,rfl,rfl⟩:=hx;rfl) h3⟩,h4⟩
 ·exact hh.elim
theorem zKI {t:TypeId} {x:HV} {l h m:Option HV} (hh:wm P PS t x l h m K):∃z,wm P PS t x l h m (fun v=>v=z)∧K z:=by
 unfold wm at*
 split at hh
 ·unfold jh at*
  cases x<;>first | exact hh.elim | skip
  obtain⟨h1,h2⟩:=hh
  obtain⟨a,b,c,h3,h4⟩:=YE h2
  exact⟨_,⟨h1,vY (fun a' b' c' hx=>by obtain⟨rfl,rfl,rfl⟩:=hx;rfl) h3⟩,h4⟩
 ·split at hh
  ·exact zNU hh
  ·exact hh.elim
 ·split at hh
  ·exact zAk hh
  ·exact hh.elim
 ·split at hh
  ·exact zAk hh
  ·exact hh.elim
 ·exact hh.elim
theorem zCF {k:IntKind} {n:Int} (h:vg k n K):∃z,vg k n (fun v=>v=z)∧K z:=by
 cases k<;>first | exact⟨_,⟨h.1,rfl⟩,h.2⟩ | exact⟨_,rfl,h⟩
theorem zGP {K:List (List HV)→Prop} {s:Nat} {x:HV} (h:zz PS s x K):∃E,zz PS s x (fun v=>v=E)∧K E:=by
 unfold zz at*
 split at h
 ·exact⟨_,⟨h.1,rfl⟩,h.2⟩
 ·split at h
  ·exact⟨_,⟨h.1,h.2.1,h.2.2.1,rfl⟩,h.2.2.2⟩
  ·exact h.elim
 ·obtain⟨h1,h2⟩:=h
  obtain⟨E,h3,h4⟩:=JQ (f:=fun l=>((l.drop _).take _).map fun y=>[y]) h2
  exact⟨E,⟨h1,h3⟩,h4⟩
 ·exact h.elim
theorem zC5 {s d:TypeId} {x:HV} (h:wc P PS s d x K):∃z,wc P PS s d x (fun v=>v=z)∧K z:=by
 unfold wc at*
 split at h
 ·exact h.elim
 ·split at h
  ·cases x<;>first | exact zCF h | exact h.elim | (obtain⟨z,h1,h2⟩:=zCF h;obtain⟨z',h3,h4⟩:=QH h2;exact⟨z',Gp (fun v hv=>by rw[hv];exact h3) h1,h4⟩)
  ·split at h
   ·exact⟨_,rfl,h⟩
   ·obtain⟨h1,h2⟩:=h
    obtain⟨E,h3,l,h4,h5⟩:=zGP h2
    exact⟨_,⟨h1,Gx (fun E' hE=>by subst hE;exact⟨l,h4,rfl⟩) h3⟩,h5⟩
   ·exact h.elim
  ·exact h.elim
theorem zJX {s d:TypeId} {x:HV} (h:wV P PS s d x K):∃z,wV P PS s d x (fun v=>v=z)∧K z:=by
 unfold wV at*
 split at h
 ·split at h
  ·unfold ZG at*
   split at h
   ·exact⟨_,⟨h.1,h.2.1,h.2.2.1,rfl⟩,h.2.2.2⟩
   ·exact h.elim
  ·exact zC5 h
 ·exact zC5 h
theorem zO4 {K:List HV→Prop} {t:TypeId}:∀(ps:List (Nat×HV)) (l:List HV),qW P t K l ps→∃z,qW P t (fun v=>v=z) l ps∧K z:=by
 intro ps
 induction ps with
 | nil=>intro l h;exact⟨l,rfl,h⟩
 | cons p ps ih=>
  intro l h
  obtain⟨i,x⟩:=p
  simp only[qW] at h ⊢
  split at h
  ·exact h.elim
  ·obtain⟨h1,h2,h3,h4⟩:=h
   obtain⟨z,h5,h6⟩:=ih _ h4
   exact⟨z,⟨h1,h2,h3,h5⟩,h6⟩
theorem zKl {t:TypeId} {ps:List (Nat×HV)} (h:uK P t ps K):∃z,uK P t ps (fun v=>v=z)∧K z:=by
 unfold uK at*
 obtain⟨h1,h⟩:=h
 split at h
 ·obtain⟨z,h2,h3⟩:=zO4 _ _ h
  exact⟨_,⟨h1,zBy (fun l hl=>by subst hl;rfl) _ _ h2⟩,h3⟩
 ·exact h.elim
theorem zH7 {K:List HV→Prop} {x:HV} (h:hst x K):∃z,hst x (fun v=>v=z)∧K z:=by
 unfold hst at*;split at h<;>exact⟨_,⟨h.1,rfl⟩,h.2⟩
theorem zKK {K:List (List HV)→Prop} {s:Nat}:∀(ps:List (Nat×HV)) (E:List (List HV)),vV s K E ps→∃z,vV s (fun v=>v=z) E ps∧K z:=by
 intro ps
 induction ps with
 | nil=>intro l h;exact⟨l,rfl,h⟩
 | cons p ps ih=>
  intro E h
  obtain⟨i,x⟩:=p
  simp only[vV] at h ⊢
  obtain⟨l,h1,h2,h3,h4⟩:=zH7 h
  obtain⟨z,h5,h6⟩:=ih _ h4
  exact⟨z,VB (fun l' hl=>by subst hl;exact⟨h2,h3,h5⟩) h1,h6⟩
theorem zGd {n:Nat} {ps:List (Nat×HV)} {o:Option (Nat×Nat×List HV)} (h:vn n ps K o):∃z,vn n ps (fun v=>v=z) o∧K z:=by
 unfold vn at*
 split at h
 ·obtain⟨h1,h2,h⟩:=h
  obtain⟨z,h3,h4⟩:=zKK _ _ h
  exact⟨_,⟨h1,h2,zE7 (fun l hl=>by subst hl;rfl) _ _ h3⟩,h4⟩
 ·exact h.elim
theorem zPV {t:TypeId} {x:HV} (h:uS P t x K):∃z,uS P t x (fun v=>v=z)∧K z:=by
 unfold uS at*
 split at h<;>first | exact⟨_,rfl,h⟩ | exact h.elim
theorem zQv {m ix:HV} {ok:Bool} {z:Option (IntKind×HV)} (h:wZ PS m ix ok K z):∃y,wZ PS m ix ok (fun v=>v=y) z∧K y:=by
 unfold wZ at*
 split at h
 ·split at h
  ·unfold qT at*
   split at h
   ·exact⟨_,⟨h.1,h.2.1,h.2.2.1,rfl⟩,h.2.2.2⟩
   ·exact h.elim
  ·unfold jD at*
   split at h
   ·exact⟨_,⟨h.1,h.2.1,h.2.2.1,h.2.2.2.1,rfl⟩,h.2.2.2.2⟩
   ·exact⟨_,⟨h.1,h.2.1,h.2.2.1,h.2.2.2.1,rfl⟩,h.2.2.2.2⟩
   ·exact h.elim
  ·exact h.elim
 ·exact h.elim
theorem zE2 {b:Bool} {l:List HV} (h:vS b K l):∃z,vS b (fun v=>v=z) l∧K z:=by
 unfold vS at*
 split at h
 ·exact⟨_,⟨h.1,rfl⟩,h.2⟩
 ·exact h.elim
/-- A length:outright. -/
def vD (P:Program) (PS:PL) (t:TypeId) (x:HV) (K:HV→Prop):Prop:=
 match P.underlying t with
 | some .string=>(match x with | .str s=>K (.int .i64 s.length) | .stok i=>(match zB.slen i with | some j=>K (.tok .i64 j) | none=>False) | _=>False)
 | some (.slice _)=>(match x with
  | .imm _ E=>K (.int .i64 E.length)
  | .sl n ver _ len _=>qM (zA PS n) ver∧K (.int .i64 len)
  | .isl n ver _ _ len _=>qM (zA PS n) ver∧K (.int .i64 len)
  | .nam i=>uO i K
  | _=>False)
 | some (.array n _)=>K (.int .i64 n)
 | some (.pointer ar)=>(match P.underlying ar with | some (.array n _)=>K (.int .i64 n) | _=>False)
 | _=>False
theorem zQ3 {t:TypeId} {x:HV} (h:vD P PS t x K):∃z,hlen P PS t x (fun v=>v=z)∧K z:=by
 unfold vD at*
 unfold hlen
 split at h<;>rename_i hu<;>simp only[hu]
 ·cases x with
  | str s=>exact⟨_,rfl,h⟩
  | stok i=>
   simp only at h ⊢
   cases hj:zB.slen i with
   | none=>rw[hj] at h;exact h.elim
   | some j=>rw[hj] at h;exact⟨_,rfl,h⟩
  | _=>exact h.elim
 ·cases x<;>first | exact⟨_,fun _=>rfl,h⟩ | exact⟨_,⟨h.1,fun _=>rfl⟩,h.2⟩ | exact zDN h | exact h.elim
 ·exact⟨_,rfl,h⟩
 ·split at h
  ·rename_i hu2;simp only[hu2];exact⟨_,rfl,h⟩
  ·exact h.elim
 ·exact h.elim
end
end Go.Eng
