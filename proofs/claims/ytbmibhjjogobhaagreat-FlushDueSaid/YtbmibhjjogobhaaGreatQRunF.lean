/-
A run, the same in smaller steps for the kernel: every choice is made by closed terms.
No conditions.
-/
import Derived.Test.YtbmibhjjogobhaaGreatQRunD
set_option linter.unusedSectionVars false
set_option linter.unusedSimpArgs false
set_option linter.unusedVariables false
noncomputable section
namespace Go.Eng
open Go
variable [zB]
/-- A value out of slots and memory. -/
abbrev VF:=Program→(Nat→HV)→Mem→Option HV
abbrev MF:=Program→(Nat→HV)→Mem→Option RM
abbrev CF:=Program→EC→(Nat→HV)→Mem→Option (List RM)
def vNo:VF:=fun _ _ _=>none
def UE (x:Operand):VF:=fun _ g _=>some (eV g x)
def zAb (c x y:Operand):VF:=fun _ g _=>Ux (eV g c) (eV g x) (eV g y)
def zFU (t:TypeId) (x:Operand):VF:=fun P g m=>XY m (eV g x) (tsz P t)
def zBq (x:Operand):VF:=fun _ g m=>WW m (eV g x)
def zNJ (op:BinOp) (t:TypeId) (x y:Operand) (_:TypeId):VF:=fun P g m=>bif vw y then none else XK P m op t (eV g x) (eV g y)
def vUn (op:UnOp) (_:TypeId) (x:Operand):VF:=fun _ g _=>eUn op (eV g x)
def zFB (s d:TypeId) (x:Operand):VF:=fun P g m=>WB P m s d (eV g x)
def zFt (s:TypeId) (x:Operand) (f:Nat):VF:=fun P g m=>WK m (eV g x) (yX P s f)
def zEr (t:TypeId) (x:Operand) (f:Nat):VF:=fun P g _=>Wv P t (eV g x) f
def zDj (t:TypeId) (x i:Operand):VF:=fun P g m=>WO P m t (eV g x) (eV g i)
def vIx (t:TypeId) (x i:Operand):VF:=fun P g _=>VG P t (eV g x) (eV g i)
def zDU (x:Operand) (i:Nat):VF:=fun _ g _=>QF (eV g x) i
def vSl (t:TypeId) (x:Operand) (l h mx:Option Operand):VF:=fun P g m=>UX P m t (eV g x) (l.map (eV g)) (h.map (eV g)) (mx.map (eV g))
def zBG (t:TypeId) (ps:Array (Nat×Operand)):VF:=fun P g _=>UF P t (ps.toList.map fun p=>(p.1,eV g p.2))
def zD4 (t:TypeId) (n:Nat) (ps:Array (Nat×Operand)):VF:=fun P g _=>Xp n (ps.toList.map fun p=>(p.1,eV g p.2)) (yV P t)
def zCq (t:TypeId) (x:Operand):VF:=fun P g _=>Vz P t (eV g x)
def zDL (t:TypeId) (mm x:Operand) (ok:Bool):VF:=fun P g m=>Wb m (eV g mm) (eV g x) ok (qA P t)
def vFn (fn:Fn) (f c:Array Operand):VF:=fun _ g _=>fLH (f.toList.map (eV g)) fun a=>fLH (c.toList.map (eV g)) fun b=>some (.func fn a b)
def zAx (args:Array Operand) (ts:Array TypeId):VF:=fun P g m=>(match ts.toList,args.toList.map (eV g) with | [t],[x]=>Wa P m t x | _,_=>none)
def zF1 (args:Array Operand) (_:Array TypeId):VF:=fun _ g _=>Ze false (args.toList.map (eV g))
def zDd (args:Array Operand) (_:Array TypeId):VF:=fun _ g _=>Ze true (args.toList.map (eV g))
def Jv (_:Array Operand) (_:Array TypeId):VF:=vNo
def vB (b:Builtin):Array Operand→Array TypeId→VF:=
 match b with
 | .len=>zAx
 | .min=>zF1
 | .max=>zDd
 | _=>Jv
def vC (c:Callee):Array Operand→Array TypeId→VF:=
 match c with
 | .builtin b=>vB b
 | .value _=>Jv
 | .invoke _ _=>Jv
def zIQ (c:Call):VF:=vC c.callee c.args c.argTypes
def vOp (o:Op):VF:=
 Op.rec (motive:=fun _=>VF) UE UE zAb (fun _=>vNo) (fun _ _=>vNo) zBG zD4 (fun _ _ _ _=>vNo) zFU (fun _ _ _=>vNo) (fun _=>vNo) (fun _=>vNo) zBq zNJ vUn zFB (fun _ _=>vNo) zCq vFn (fun _ _=>vNo) (fun _ _=>vNo) (fun _ _ _=>vNo) vSl zFt zEr zDj vIx zDL (fun _ _ _ _=>vNo) (fun _ _ _=>vNo) (fun _ _ _ _=>vNo) (fun _ _=>vNo) (fun _ _=>vNo) (fun _=>vNo) (fun _ _ _ _=>vNo) zDU zIQ (fun _=>vNo) (fun _=>vNo) (fun _=>vNo) (fun _ _=>vNo) (fun _ _ _=>vNo) (fun _ _=>vNo) o
theorem zRD (P:Program) (o:Oper) (g:Nat→HV) (m:Mem):vOp o.op P g m=jH P o g m:=by
 obtain⟨dst,op,ty,pos,after,guard⟩:=o
 cases op with
 | call c=>
  obtain⟨callee,args,ts⟩:=c
  cases callee with
  | builtin b=>cases b<;>rfl
  | _=>rfl
 | _=>rfl
/-! ### All operations -/
def wS (v:VF):CF:=fun P _ g m=>bnd (v P g m) fun v=>some [(v,m)]
def vz (h:MF):CF:=fun P _ g m=>bnd (h P g m) fun r=>some [r]
def cNo:CF:=fun _ _ _ _=>none
def zJf (t:TypeId):CF:=vz fun P _ m=>Xt P t m
def zNw (_:TypeId) (x:Operand):CF:=vz fun _ g m=>fH (eV g x) fun x=>Uo x m
def zQ4 (t:TypeId) (x y:Operand):CF:=vz fun P g m=>fH (eV g y) fun y=>UL m (eV g x) y (tsz P t)
def zKW (t:TypeId) (l c:Operand):CF:=vz fun P g m=>VU m (eV g l) (eV g c) (yV P t)
def zOX (t:TypeId) (z:Option Operand):CF:=
 match z with
 | none=>vz fun P _ m=>QC m (Yv P t)
 | some _=>cNo
def zOD (t:TypeId) (mm x y:Operand):CF:=vz fun P g m=>UY m (eV g mm) (eV g x) (eV g y) (qA P t)
def zQh (t:TypeId) (mm:Operand):CF:=vz fun P g m=>Vk m (eV g mm) (qA P t)
def zJ0 (it:Operand) (b:Bool):CF:=
 match b with
 | false=>fun _ _ g m=>QI m (eV g it)
 | true=>cNo
def zN4 (it:Operand):CF:=vz fun _ g m=>bnd (Vf m (eV g it)) fun v=>some (v,m)
def zKs (op:BinOp) (t:TypeId) (x y:Operand) (_:TypeId):CF:=vz fun P g m=>bnd (bif vw y then QK P m op t (eV g x) else XK P m op t (eV g x) (eV g y)) fun v=>some (v,m)
def zID (x:Operand) (_ t:TypeId) (ok:Bool):CF:=vz fun P g m=>bnd (GQ P t (eV g x) ok (P.underlying t)) fun v=>some (v,m)
abbrev BF:=Array Operand→Array TypeId→CF
def bNo:BF:=fun _ _=>cNo
def bV (v:Array Operand→Array TypeId→VF):BF:=fun args ts=>wS (v args ts)
def zKq:BF:=fun args ts=>vz fun P g m=>(match ts.toList,args.toList.map (eV g) with | [t,t2],[x,y]=>Uw P m t t2 x y | _,_=>none)
def zO9:BF:=fun args ts=>vz fun P g m=>(match ts.toList,args.toList.map (eV g) with | [t,_],[x,y]=>UJ P m t x y | _,_=>none)
def zP7:BF:=fun args ts=>vz fun P g m=>(match ts.toList,args.toList.map (eV g) with | [t],[x]=>WH P m t x | _,_=>none)
def zMD:BF:=fun args ts=>vz fun P g m=>(match ts.toList,args.toList.map (eV g) with | t::_,[mm,x]=>VC m mm x (qA P t) | _,_=>none)
def bB (b:Builtin):BF:=
 match b with
 | .append=>zKq
 | .copy=>zO9
 | .clear=>zP7
 | .delete=>zMD
 | .len=>bV zAx
 | .min=>bV zF1
 | .max=>bV zDd
 | _=>bNo
def zON (fv:Operand):BF:=fun args _ P ec g m=>bnd (wu (eV g fv)) fun q=>fN q.1 fun q1=>on (zQ P q1) (fLH (q.2.1++(args.toList.map (eV g)++q.2.2)) fun l=>ec q1 l m)
def zHL (nm:String) (args:Array Operand) (P:Program) (ec:EC) (g:Nat→HV) (m:Mem) (t:TypeId) (y:HV):Option (List RM):=bnd (jo P t nm) fun q=>fN q fun q=>on (zQ P q) (fLH (y::args.toList.map (eV g)) fun l=>ec q l m)
def zKG (r:Operand) (nm:String):BF:=fun args _ P ec g m=>(match eV g r with
  | .iface t y=>zHL nm args P ec g m t y
  | _=>none)
def bC (c:Callee):BF:=
 match c with
 | .builtin b=>bB b
 | .value f=>zON f
 | .invoke r nm=>zKG r nm
def zH5 (c:Call):CF:=bC c.callee c.args c.argTypes
def cOp (o:Op):CF:=
 Op.rec (motive:=fun _=>CF) (fun x=>wS (UE x)) (fun x=>wS (UE x)) (fun a b c=>wS (zAb a b c)) zJf zNw (fun t p=>wS (zBG t p)) (fun t n p=>wS (zD4 t n p)) (fun _ _ _ _=>cNo) (fun t x=>wS (zFU t x)) zQ4 (fun _=>cNo) (fun _=>cNo) (fun x=>wS (zBq x)) zKs (fun o t x=>wS (vUn o t x)) (fun s d x=>wS (zFB s d x)) (fun _ _=>cNo) (fun t x=>wS (zCq t x)) (fun f a c=>wS (vFn f a c)) zOX (fun _ _=>cNo) zKW (fun t x l h m=>wS (vSl t x l h m)) (fun t x f=>wS (zFt t x f)) (fun t x f=>wS (zEr t x f)) (fun t x i=>wS (zDj t x i)) (fun t x i=>wS (vIx t x i)) (fun t m x ok=>wS (zDL t m x ok)) zOD (fun _ _ _=>cNo) (fun _ _ _ _=>cNo) zQh zJ0 zN4 zID (fun x i=>wS (zDU x i)) zH5 (fun _=>cNo) (fun _=>cNo) (fun _=>cNo) (fun _ _=>cNo) (fun _ _ _=>cNo) (fun _ _=>cNo) o
theorem zAS {α β γ:Type} (x:Option α) (f:α→Option β) (g:β→Option γ):bnd (bnd x f) g=bnd x fun a=>bnd (f a) g:=by cases x<;>rfl
theorem zFP (P:Program) (ec:EC) (o:Oper) (g:Nat→HV) (m:Mem):cOp o.op P ec g m=eOp P ec o g m:=by
 obtain⟨dst,op,ty,pos,after,guard⟩:=o
 cases op with
 | call c=>
  obtain⟨callee,args,ts⟩:=c
  cases callee with
  | builtin b=>
   cases b<;>first
    | rfl
    | (simp only[eOp,uJ,zAS];rfl)
  | value f=>rfl
  | invoke r nm=>rfl
 | makeMap t z=>cases z<;>rfl
 | next it b=>cases b<;>rfl
 | _=>first
  | rfl
  | (simp only[eOp,uJ,zAS];rfl)
/-! ### Code -/
section
variable (P:Program) (ec:EC)
def YO {β:Type} (next:FT→Mem→β) (m:Mem) (f:FT):β:=next f m
def zD5 {β:Type} (f:FT) (d:Option Tmp) (next:FT→Mem→Option β) (r:RM):Option β:=
 match r with
 | (v,m)=>f.put d v (YO next m)
def sDo {α:Type} (o:Oper) (f:FT) (m:Mem) (next:FT→Mem→Option (List α)) (b:Bool):Option (List α):=
 bif b then yU (cOp o.op P ec f.get m) (zD5 f o.dst next) else f.put o.dst (.cst undef) (YO next m)
def sOp {α:Type} (ops:Array Oper) (o:Oper) (next:FT→Mem→Option (List α)) (f:FT) (m:Mem):Option (List α):=bnd (eDo ops o f) (sDo P ec o f m next)
def WN {α:Type} (ops:Array Oper) (l:List Oper):(FT→Mem→Option (List α))→FT→Mem→Option (List α):=
 List.rec (motive:=fun _=>(FT→Mem→Option (List α))→FT→Mem→Option (List α)) (fun K=>K) (fun o _ ih K=>sOp P ec ops o (ih K)) l
theorem Jd {α:Type} (ops:Array Oper):∀(l:List Oper) (K:FT→Mem→Option (List α)) (f:FT) (m:Mem),WN P ec ops l K f m=ZC P ec ops l f m K
 | [],_,_,_=>rfl
 | o::l,K,f,m=>by
  show sOp P ec ops o (WN P ec ops l K) f m=_
  simp only[sOp,ZC]
  congr 1
  funext b
  cases b
  ·simp only[sDo,cond_false,YO]
   congr 1;funext f;exact Jd ops l K f m
  ·simp only[sDo,cond_true,zFP]
   congr 1;funext r
   obtain⟨v,m'⟩:=r
   simp only[zD5]
   congr 1;funext f;exact Jd ops l K f m'
def zDK {α:Type} (ops:Array Oper) (next:FT→Mem→Option α) (f:FT) (m:Mem) (o:Oper):Option α:=
 bnd (eDo ops o f) fun b=>bif b then bnd (vOp o.op P f.get m) (fun v=>f.put o.dst v (YO next m)) else f.put o.dst (.cst undef) (YO next m)
def Gz {α:Type} (ops:Array Oper) (i:Nat) (next:FT→Mem→Option α) (f:FT) (m:Mem):Option α:=bnd (lg ops.toList i) (zDK P ops next f m)
def zD1 {α:Type} (ops:Array Oper) (i:Nat) (f:FT) (m:Mem) (next:FT→Mem→Option (List α)):Option (List α):=
 bnd (lg ops.toList i) fun o=>sOp P ec ops o next f m
def VX {α:Type} (ops:Array Oper) (cs:List Nat) (next:FT→Mem→Option α) (f:FT) (m:Mem):Option α:=
 match cs with
 | []=>next f m
 | cs=>on (cs.all (Za P ops f m)) (next f m)
def Jw (ops:Array Oper) (i:Nat) (cs:List Nat) (p q:FT→Mem→Option (List (FT×Mem))) (f:FT) (m:Mem):Option (List (FT×Mem)):=
 bnd (zD1 P ec ops i f m (VX P ops cs p)) fun r1=>bnd (q f m) fun r2=>some (both r1 r2)
def jK (ops:Array Oper) (p:zL):FT→Mem→Option (List (FT×Mem)):=
 zL.rec (motive:=fun _=>FT→Mem→Option (List (FT×Mem))) (fun f m=>some [(f,m)]) (fun i _ ih=>Gz P ops i ih) (fun i cs _ _ ip iq=>Jw P ec ops i cs ip iq) (fun _ _=>some []) (fun _ _ _ _ _ _ _ _=>none) p
theorem gK (ops:Array Oper):∀(p:zL) (f:FT) (m:Mem),jK P ec ops p f m=vU P ec ops p f m
 | .done,_,_=>rfl
 | .none,_,_=>rfl
 | .late _ _ _ _,_,_=>rfl
 | .one i p,f,m=>by
  show Gz P ops i (jK P ec ops p) f m=_
  have e:lg ops.toList i=ops[i]? :=by simp
  simp only[Gz,vU,Ja,e]
  cases ops[i]? with
  | none=>rfl
  | some o=>
   simp only[bnd,zDK]
   congr 1
   funext b
   have h:(YO (jK P ec ops p) m)=fun f=>vU P ec ops p f m:=funext fun f=>gK ops p f m
   rw[h,zRD]
 | .alt i cs p q,f,m=>by
  show Jw P ec ops i cs (jK P ec ops p) (jK P ec ops q) f m=_
  have e:lg ops.toList i=ops[i]? :=by simp
  have hc:VX P ops cs (jK P ec ops p)=fun f m=>on (cs.all (Za P ops f m)) (vU P ec ops p f m):=by
   funext f m
   cases cs with
   | nil=>simp only[VX,List.all_nil,on,cond_true];exact gK ops p f m
   | cons c cs=>simp only[VX];rw[gK ops p f m]
  simp only[Jw,vU]
  rw[gK ops q f m,hc]
  congr 1
  simp only[zD1,Qc,e]
  cases ops[i]? with
  | none=>rfl
  | some o=>
   simp only[bnd,sOp]
   congr 1
   funext b
   cases b
   ·simp only[sDo,cond_false];rfl
   ·simp only[sDo,cond_true,zFP]
    congr 1
def zCp (ops:Array Oper) (J:List Nat) (p2:FT→Mem→Option (List (FT×Mem))) (x:FT×Mem):Option (List (FT×Mem)):=
 match x with
 | (f,m)=>YH P ops J f m p2
def Gg (ops:Array Oper) (p:zL):FT→Mem→Option (List (FT×Mem)):=
 match p with
 | .late J _ p1 p2=>fun f m=>on (Qj P ops J) (yU (jK P ec ops p1 f m) (zCp P ops J (jK P ec ops p2)))
 | p=>jK P ec ops p
theorem zKN (ops:Array Oper) (p:zL) (f:FT) (m:Mem):Gg P ec ops p f m=VI P ec ops p f m:=by
 cases p with
 | late J dp p1 p2=>
  show on _ (yU (jK P ec ops p1 f m) _)=_
  have e:jK P ec ops p2=fun f m=>vU P ec ops p2 f m:=funext fun f=>funext fun m=>gK P ec ops p2 f m
  have e2:zCp P ops J (jK P ec ops p2)=fun x=>YH P ops J x.1 x.2 fun f m=>vU P ec ops p2 f m:=by
   rw[e];rfl
  rw[gK,e2];rfl
 | done=>exact gK P ec ops .done f m
 | none=>exact gK P ec ops .none f m
 | one i p=>exact gK P ec ops (.one i p) f m
 | alt i cs p q=>exact gK P ec ops (.alt i cs p q) f m
end
abbrev KF:=Code→FT→Mem→Option (List RX)
abbrev SF:=FT→Mem→Option (List RX)
def Zf:SF:=fun f m=>some [(.normal,f,m)]
def zCK (x:FT×Mem):Option (List RX):=
 match x with
 | (f,m)=>some [(.normal,f,m)]
def zOx (P:Program) (ec:EC) (pl:Nat→zL) (n0 id:Nat) (ops:Array Oper) (draw:Bool):SF:=fun f m=>bif draw then yU (bnd (Gg P ec ops (pl id) f m) fun l=>some (gj n0 m.n l)) zCK else bif UO (pl id) then xX P ec ops ops.toList f m Zf else WN P ec ops ops.toList Zf f m
def zDn (r:SF) (h:HX) (f:FT) (m:Mem):Option (List RX):=
 match h with
 | .normal=>r f m
 | h=>some [(h,f,m)]
def UD (r:SF) (x:RX):Option (List RX):=
 match x with
 | (h,f,m)=>zDn r h f m
def zQq (r:KF) (x y:Code):SF:=fun f m=>yU (r x f m) (UD (r y))
def Km (r:KF) (x y:Code) (f:FT) (m:Mem) (v:HV):Option (List RX):=
 match v with
 | .bool b=>bif b then r x f m else r y f m
 | .anyb=>bnd (r x f m) fun l=>bnd (r y f m) fun r=>some (l++r)
 | _=>none
def zOk (r:KF) (c:Operand) (x y:Code):SF:=fun f m=>Km r x y f m (eV f.get c)
def zJl (id:Nat) (x:RX):Option (List RX):=
 match x with
 | (.exit id',f,m)=>some [(bif Nat.beq id' id then .normal else .exit id',f,m)]
 | r=>some [r]
def zRR (r:KF) (id:Nat) (c:Code):SF:=fun f m=>yU (r c f m) (zJl id)
def zJE (r:KF) (c:Code):SF:=fun f m=>yU (r c f m) (UD (r (.loop c)))
def zPd (r:KF) (c:Code):SF:=fun f m=>yU (r c f m) fun x=>(match x with | (.goto _,_,_)=>none | r=>some [r])
def zA2 (P:Program) (ec:EC) (pl:Nat→zL) (n0:Nat) (r:KF) (c:Code):SF:=
 Code.rec (motive:=fun _=>SF) Zf (zOx P ec pl n0) (fun x y _ _=>zQq r x y) (fun c x y _ _=>zOk r c x y) (fun id c _=>zRR r id c) (fun c _=>zJE r c) (fun _ _ _ _ _ _=>fun _ _=>none) (fun id=>fun f m=>some [(.exit id,f,m)]) (fun c _=>zPd r c) (fun _=>Zf) (fun l=>fun f m=>some [(.goto l,f,m)]) (fun f m=>some [(.ret,f,m)]) (fun _=>fun _ _=>none) c
def jP (P:Program) (ec:EC) (pl:Nat→zL) (n0 n:Nat):KF:=
 Nat.rec (motive:=fun _=>KF) (fun _ _ _=>none) (fun _ r=>zA2 P ec pl n0 r) n
theorem zA0 (P:Program) (ec:EC) (pl:Nat→zL) (n0:Nat):∀(n:Nat) (c:Code) (f:FT) (m:Mem),jP P ec pl n0 n c f m=eval P ec pl n0 n c f m
 | 0,_,_,_=>rfl
 | n+1,c,f,m=>by
  show zA2 P ec pl n0 (jP P ec pl n0 n) c f m=_
  have ih:∀c,jP P ec pl n0 n c=eval P ec pl n0 n c:=fun c=>funext fun f=>funext fun m=>zA0 P ec pl n0 n c f m
  have th:∀(c:Code),(UD (jP P ec pl n0 n c))=fun r=>(match r with | (.normal,f,m)=>eval P ec pl n0 n c f m | r=>some [r]):=by
   intro c
   funext x
   obtain⟨h,f,m⟩:=x
   cases h<;>simp only[UD,zDn,ih]
  cases c with
  | region id ops draw=>
   cases draw
   ·show (bif UO (pl id) then xX P ec ops ops.toList f m Zf else WN P ec ops ops.toList Zf f m)=_
    rw[Jd];rfl
   ·show yU (bnd (Gg P ec ops (pl id) f m) fun l=>some (gj n0 m.n l)) zCK=_
    rw[zKN];rfl
  | seq x y=>show yU (jP P ec pl n0 n x f m) _=_;rw[th,ih];rfl
  | cond c x y=>
   show Km (jP P ec pl n0 n) x y f m (eV f.get c)=_
   simp only[Km,eval,ih]
   cases eV f.get c with
   | bool b=>cases b<;>rfl
   | _=>rfl
  | block id c=>show yU (jP P ec pl n0 n c f m) _=_;rw[ih];rfl
  | loop c=>show yU (jP P ec pl n0 n c f m) _=_;rw[th,ih];rfl
  | scope c=>show yU (jP P ec pl n0 n c f m) _=_;rw[ih];rfl
  | _=>rfl
def zPn (r:KF) (c:Code) (x:RX):Option (List RX):=
 match x with
 | (.goto l,f,m)=>bnd (findLabel c l) fun rest=>yU (r rest f m) QV
 | x=>some [x]
def kTh (y:SF) (r:RX):Option (List RX):=
 match r with
 | (.normal,f,m)=>y f m
 | r=>some [r]
def JR (r:KF) (c:Code):SF:=
 match c with
 | .scope c=>fun f m=>yU (r c f m) (zPn r c)
 | .seq x y=>fun f m=>yU (r x f m) (kTh (JR r y))
 | c=>r c
theorem zNi (P:Program) (ec:EC) (pl:Nat→zL) (n0 n:Nat):∀(c:Code) (f:FT) (m:Mem),JR (jP P ec pl n0 n) c f m=YW P ec pl n0 n c f m:=by
 have e:jP P ec pl n0 n=eval P ec pl n0 n:=funext fun c=>funext fun f=>funext fun m=>zA0 P ec pl n0 n c f m
 rw[e]
 intro c
 induction c with
 | scope c _=>
  intro f m
  show yU _ _=yU _ _
  congr 1
 | seq x y _ ih=>
  intro f m
  show yU _ _=yU _ _
  congr 1
  funext r
  obtain⟨hx,f,m⟩:=r
  cases hx<;>first | exact ih f m | rfl
 | _=>intro f m;rfl
/-- A call. -/
def zFq (P:Program) (ec:EC) (pl:FuncId→Nat→zL) (fuel:Nat) (g:FuncId) (args:List HV) (m:Mem) (fn:Func):Option (List RM):=
 bnd fn.body fun c=>FT.of fn.ntmps args fun f=>bnd (yU (JR (jP P ec (pl g) m.n fuel) c f m) (Kk P fn.results.toList)) fun l=>some (Uv m.n l)
def GU (P:Program) (ec:EC) (cov:FuncId→Bool) (pl:FuncId→Nat→zL) (fuel:Nat) (g:FuncId) (args:List HV) (m:Mem):Option (List RM):=
 on (cov g) (bnd P.funcs[g]? (zFq P ec pl fuel g args m))
def aOr {α:Type} (x:Option α) (y:Option α):Option α:=
 match x with
 | some r=>some r
 | none=>y
def ZI (P:Program) (orc:EC) (cov:FuncId→Bool) (pl:FuncId→Nat→zL) (fuel:Nat) (d:Nat):EC:=
 Nat.rec (motive:=fun _=>EC) (fun _ _ _=>none) (fun _ ec g args m=>aOr (orc g args m) (GU P ec cov pl fuel g args m)) d
theorem zAr (P:Program) (orc:EC) (cov:FuncId→Bool) (pl:FuncId→Nat→zL) (fuel:Nat):∀(d:Nat),ZI P orc cov pl fuel d=Yi P orc cov pl fuel d
 | 0=>rfl
 | d+1=>by
  funext g args m
  show aOr (orc g args m) (GU P (ZI P orc cov pl fuel d) cov pl fuel g args m)=_
  rw[zAr P orc cov pl fuel d]
  simp only[Yi]
  cases orc g args m with
  | some r=>rfl
  | none=>
   simp only[aOr,GU]
   congr 1
   cases P.funcs[g]? with
   | none=>rfl
   | some fn=>
    simp only[bnd,zFq]
    cases fn.body with
    | none=>rfl
    | some c=>
     simp only
     congr 1
     funext f
     rw[zNi]
theorem zFA {P:Program} {orc:EC} {cov:FuncId→Bool} {pl:FuncId→Nat→zL} {fuel:Nat} (hm:P.follows .mixedOrders=true)
  (ho:qe P orc) (hc:Uj P cov pl) (d:Nat):qe P (ZI P orc cov pl fuel d):=by
 rw[zAr];exact zJv hm ho hc d
end Go.Eng
end
