/-
A run, the same in smaller steps for the kernel: every choice is made by closed terms.
No conditions.
-/
import Derived.Test.YtajjhaidpagflaaGreatQRunD
set_option linter.unusedSectionVars false
set_option linter.unusedSimpArgs false
set_option linter.unusedVariables false
namespace Go.Eng
open Go
variable [Toks]
/-- A value out of slots and memory. -/
abbrev VF:=Program→(Nat→HV)→Mem→Option HV
abbrev MF:=Program→(Nat→HV)→Mem→Option RM
abbrev CF:=Program→EC→(Nat→HV)→Mem→Option (List RM)
noncomputable def vNo:VF:=fun _ _ _=>none
noncomputable def vMove (x:Operand):VF:=fun _ g _=>some (eV g x)
noncomputable def vPick (c x y:Operand):VF:=fun _ g _=>ePick (eV g c) (eV g x) (eV g y)
noncomputable def vLoad (t:TypeId) (x:Operand):VF:=fun P g m=>eLoad m (eV g x) (tsz P t)
noncomputable def vNil (x:Operand):VF:=fun _ g m=>eNil m (eV g x)
noncomputable def vBin (op:BinOp) (t:TypeId) (x y:Operand) (_:TypeId):VF:=fun P g m=>bif isNilSl y then none else eBin P m op t (eV g x) (eV g y)
noncomputable def vUn (op:UnOp) (_:TypeId) (x:Operand):VF:=fun _ g _=>eUn op (eV g x)
noncomputable def vConv (s d:TypeId) (x:Operand):VF:=fun P g m=>eConvert P m s d (eV g x)
noncomputable def vFldA (s:TypeId) (x:Operand) (f:Nat):VF:=fun P g m=>eField m (eV g x) (fldOf P s f)
noncomputable def vFld (t:TypeId) (x:Operand) (f:Nat):VF:=fun P g _=>eFieldv P t (eV g x) f
noncomputable def vIxA (t:TypeId) (x i:Operand):VF:=fun P g m=>eIxAddr P m t (eV g x) (eV g i)
noncomputable def vIx (t:TypeId) (x i:Operand):VF:=fun P g _=>eIndex P t (eV g x) (eV g i)
noncomputable def vExt (x:Operand) (i:Nat):VF:=fun _ g _=>eExt (eV g x) i
noncomputable def vSl (t:TypeId) (x:Operand) (l h mx:Option Operand):VF:=fun P g m=>eSlice P m t (eV g x) (l.map (eV g)) (h.map (eV g)) (mx.map (eV g))
noncomputable def vBld (t:TypeId) (ps:Array (Nat×Operand)):VF:=fun P g _=>eBuild P t (ps.toList.map fun p=>(p.1,eV g p.2))
noncomputable def vBsl (t:TypeId) (n:Nat) (ps:Array (Nat×Operand)):VF:=fun P g _=>eBsl n (ps.toList.map fun p=>(p.1,eV g p.2)) (mkOf P t)
noncomputable def vMki (t:TypeId) (x:Operand):VF:=fun P g _=>eMki P t (eV g x)
noncomputable def vLook (t:TypeId) (mm x:Operand) (ok:Bool):VF:=fun P g m=>eLookup m (eV g mm) (eV g x) ok (mapZ P t)
noncomputable def vFn (fn:Fn) (f c:Array Operand):VF:=fun _ g _=>fLH (f.toList.map (eV g)) fun a=>fLH (c.toList.map (eV g)) fun b=>some (.func fn a b)
noncomputable def vLen (args:Array Operand) (ts:Array TypeId):VF:=fun P g m=>(match ts.toList,args.toList.map (eV g) with | [t],[x]=>eLen P m t x | _,_=>none)
noncomputable def vMin (args:Array Operand) (_:Array TypeId):VF:=fun _ g _=>eMinmax false (args.toList.map (eV g))
noncomputable def vMax (args:Array Operand) (_:Array TypeId):VF:=fun _ g _=>eMinmax true (args.toList.map (eV g))
noncomputable def vNoB (_:Array Operand) (_:Array TypeId):VF:=vNo
noncomputable def vB (b:Builtin):Array Operand→Array TypeId→VF:=
  match b with
  | .len=>vLen
  | .min=>vMin
  | .max=>vMax
  | _=>vNoB
noncomputable def vC (c:Callee):Array Operand→Array TypeId→VF:=
  match c with
  | .builtin b=>vB b
  | .value _=>vNoB
  | .invoke _ _=>vNoB
noncomputable def vCall (c:Call):VF:=vC c.callee c.args c.argTypes
noncomputable def vOp (o:Op):VF:=
  Op.rec (motive:=fun _=>VF) vMove vMove vPick (fun _=>vNo) (fun _ _=>vNo) vBld vBsl (fun _ _ _ _=>vNo) vLoad (fun _ _ _=>vNo) (fun _=>vNo) (fun _=>vNo) vNil vBin vUn vConv (fun _ _=>vNo) vMki vFn (fun _ _=>vNo) (fun _ _=>vNo) (fun _ _ _=>vNo) vSl vFldA vFld vIxA vIx vLook (fun _ _ _ _=>vNo) (fun _ _ _=>vNo) (fun _ _ _ _=>vNo) (fun _ _=>vNo) (fun _ _=>vNo) (fun _=>vNo) (fun _ _ _ _=>vNo) vExt vCall (fun _=>vNo) (fun _=>vNo) (fun _=>vNo) (fun _ _=>vNo) (fun _ _ _=>vNo) (fun _ _=>vNo) o
theorem vOp_eq (P:Program) (o:Oper) (g:Nat→HV) (m:Mem):vOp o.op P g m=eVal P o g m:=by
  obtain⟨dst,op,ty,pos,after,guard⟩:=o
  cases op with
  | call c=>
    obtain⟨callee,args,ts⟩:=c
    cases callee with
    | builtin b=>cases b<;>rfl
    | _=>rfl
  | _=>rfl
/-! ### All operations -/
noncomputable def cVal (v:VF):CF:=fun P _ g m=>bnd (v P g m) fun v=>some [(v,m)]
noncomputable def cMem (h:MF):CF:=fun P _ g m=>bnd (h P g m) fun r=>some [r]
noncomputable def cNo:CF:=fun _ _ _ _=>none
noncomputable def mAlloc (t:TypeId):CF:=cMem fun P _ m=>eAlloc P t m
noncomputable def mBox (_:TypeId) (x:Operand):CF:=cMem fun _ g m=>fH (eV g x) fun x=>eBox x m
noncomputable def mStore (t:TypeId) (x y:Operand):CF:=cMem fun P g m=>fH (eV g y) fun y=>eStore m (eV g x) y (tsz P t)
noncomputable def mMake (t:TypeId) (l c:Operand):CF:=cMem fun P g m=>eMake m (eV g l) (eV g c) (mkOf P t)
noncomputable def mMap (t:TypeId) (z:Option Operand):CF:=
  match z with
  | none=>cMem fun P _ m=>eMkmap m (mapK P t)
  | some _=>cNo
noncomputable def mSetm (t:TypeId) (mm x y:Operand):CF:=cMem fun P g m=>eMapset m (eV g mm) (eV g x) (eV g y) (mapZ P t)
noncomputable def mRange (t:TypeId) (mm:Operand):CF:=cMem fun P g m=>eRange m (eV g mm) (mapZ P t)
noncomputable def mNext (it:Operand) (b:Bool):CF:=
  match b with
  | false=>fun _ _ g m=>eNextL m (eV g it)
  | true=>cNo
noncomputable def mEntry (it:Operand):CF:=cMem fun _ g m=>bnd (eEntry m (eV g it)) fun v=>some (v,m)
noncomputable def mBin (op:BinOp) (t:TypeId) (x y:Operand) (_:TypeId):CF:=cMem fun P g m=>bnd (bif isNilSl y then eSlnil P m op t (eV g x) else eBin P m op t (eV g x) (eV g y)) fun v=>some (v,m)
noncomputable def mAss (x:Operand) (_ t:TypeId) (ok:Bool):CF:=cMem fun P g m=>bnd (eAssert P t (eV g x) ok (P.underlying t)) fun v=>some (v,m)
abbrev BF:=Array Operand→Array TypeId→CF
noncomputable def bNo:BF:=fun _ _=>cNo
noncomputable def bV (v:Array Operand→Array TypeId→VF):BF:=fun args ts=>cVal (v args ts)
noncomputable def bApp:BF:=fun args ts=>cMem fun P g m=>(match ts.toList,args.toList.map (eV g) with | [t,t2],[x,y]=>eApp P m t t2 x y | _,_=>none)
noncomputable def bCopy:BF:=fun args ts=>cMem fun P g m=>(match ts.toList,args.toList.map (eV g) with | [t,_],[x,y]=>eCopy P m t x y | _,_=>none)
noncomputable def bClear:BF:=fun args ts=>cMem fun P g m=>(match ts.toList,args.toList.map (eV g) with | [t],[x]=>eClear P m t x | _,_=>none)
noncomputable def bDel:BF:=fun args ts=>cMem fun P g m=>(match ts.toList,args.toList.map (eV g) with | t::_,[mm,x]=>eMapdel m mm x (mapZ P t) | _,_=>none)
noncomputable def bB (b:Builtin):BF:=
  match b with
  | .append=>bApp
  | .copy=>bCopy
  | .clear=>bClear
  | .delete=>bDel
  | .len=>bV vLen
  | .min=>bV vMin
  | .max=>bV vMax
  | _=>bNo
noncomputable def bVal (fv:Operand):BF:=fun args _ P ec g m=>bnd (hfun (eV g fv)) fun q=>fN q.1 fun q1=>on (callable P q1) (fLH (q.2.1++(args.toList.map (eV g)++q.2.2)) fun l=>ec q1 l m)
noncomputable def bInvI (nm:String) (args:Array Operand) (P:Program) (ec:EC) (g:Nat→HV) (m:Mem) (t:TypeId) (y:HV):Option (List RM):=bnd (hmeth P t nm) fun q=>fN q fun q=>on (callable P q) (fLH (y::args.toList.map (eV g)) fun l=>ec q l m)
noncomputable def bInv (r:Operand) (nm:String):BF:=fun args _ P ec g m=>(match eV g r with
    | .iface t y=>bInvI nm args P ec g m t y
    | _=>none)
noncomputable def bC (c:Callee):BF:=
  match c with
  | .builtin b=>bB b
  | .value f=>bVal f
  | .invoke r nm=>bInv r nm
noncomputable def mCall (c:Call):CF:=bC c.callee c.args c.argTypes
noncomputable def cOp (o:Op):CF:=
  Op.rec (motive:=fun _=>CF) (fun x=>cVal (vMove x)) (fun x=>cVal (vMove x)) (fun a b c=>cVal (vPick a b c)) mAlloc mBox (fun t p=>cVal (vBld t p)) (fun t n p=>cVal (vBsl t n p)) (fun _ _ _ _=>cNo) (fun t x=>cVal (vLoad t x)) mStore (fun _=>cNo) (fun _=>cNo) (fun x=>cVal (vNil x)) mBin (fun o t x=>cVal (vUn o t x)) (fun s d x=>cVal (vConv s d x)) (fun _ _=>cNo) (fun t x=>cVal (vMki t x)) (fun f a c=>cVal (vFn f a c)) mMap (fun _ _=>cNo) mMake (fun t x l h m=>cVal (vSl t x l h m)) (fun t x f=>cVal (vFldA t x f)) (fun t x f=>cVal (vFld t x f)) (fun t x i=>cVal (vIxA t x i)) (fun t x i=>cVal (vIx t x i)) (fun t m x ok=>cVal (vLook t m x ok)) mSetm (fun _ _ _=>cNo) (fun _ _ _ _=>cNo) mRange mNext mEntry mAss (fun x i=>cVal (vExt x i)) mCall (fun _=>cNo) (fun _=>cNo) (fun _=>cNo) (fun _ _=>cNo) (fun _ _ _=>cNo) (fun _ _=>cNo) o
theorem bnd_bnd {α β γ:Type} (x:Option α) (f:α→Option β) (g:β→Option γ):bnd (bnd x f) g=bnd x fun a=>bnd (f a) g:=by cases x<;>rfl
theorem cOp_eq (P:Program) (ec:EC) (o:Oper) (g:Nat→HV) (m:Mem):cOp o.op P ec g m=eOp P ec o g m:=by
  obtain⟨dst,op,ty,pos,after,guard⟩:=o
  cases op with
  | call c=>
    obtain⟨callee,args,ts⟩:=c
    cases callee with
    | builtin b=>
      cases b<;>first
        | rfl
        | (simp only[eOp,eMem,bnd_bnd];rfl)
    | value f=>rfl
    | invoke r nm=>rfl
  | makeMap t z=>cases z<;>rfl
  | next it b=>cases b<;>rfl
  | _=>first
    | rfl
    | (simp only[eOp,eMem,bnd_bnd];rfl)
/-! ### Code -/
section
variable (P:Program) (ec:EC)
noncomputable def sNext {β:Type} (next:FT→Mem→β) (m:Mem) (f:FT):β:=next f m
noncomputable def sPut {β:Type} (f:FT) (d:Option Tmp) (next:FT→Mem→Option β) (r:RM):Option β:=
  match r with
  | (v,m)=>f.put d v (sNext next m)
noncomputable def sDo {α:Type} (o:Oper) (f:FT) (m:Mem) (next:FT→Mem→Option (List α)) (b:Bool):Option (List α):=
  bif b then bndL (cOp o.op P ec f.get m) (sPut f o.dst next) else f.put o.dst (.cst undef) (sNext next m)
noncomputable def sOp {α:Type} (ops:Array Oper) (o:Oper) (next:FT→Mem→Option (List α)) (f:FT) (m:Mem):Option (List α):=bnd (eDo ops o f) (sDo P ec o f m next)
noncomputable def opsF {α:Type} (ops:Array Oper) (l:List Oper):(FT→Mem→Option (List α))→FT→Mem→Option (List α):=
  List.rec (motive:=fun _=>(FT→Mem→Option (List α))→FT→Mem→Option (List α)) (fun K=>K) (fun o _ ih K=>sOp P ec ops o (ih K)) l
theorem opsF_eq {α:Type} (ops:Array Oper):∀(l:List Oper) (K:FT→Mem→Option (List α)) (f:FT) (m:Mem),opsF P ec ops l K f m=eOps P ec ops l f m K
  | [],_,_,_=>rfl
  | o::l,K,f,m=>by
    show sOp P ec ops o (opsF P ec ops l K) f m=_
    simp only[sOp,eOps]
    congr 1
    funext b
    cases b
    · simp only[sDo,cond_false,sNext]
      congr 1;funext f;exact opsF_eq ops l K f m
    · simp only[sDo,cond_true,cOp_eq]
      congr 1;funext r
      obtain⟨v,m'⟩:=r
      simp only[sPut]
      congr 1;funext f;exact opsF_eq ops l K f m'
noncomputable def pOneO {α:Type} (ops:Array Oper) (next:FT→Mem→Option α) (f:FT) (m:Mem) (o:Oper):Option α:=
  bnd (eDo ops o f) fun b=>bif b then bnd (vOp o.op P f.get m) (fun v=>f.put o.dst v (sNext next m)) else f.put o.dst (.cst undef) (sNext next m)
noncomputable def pOne {α:Type} (ops:Array Oper) (i:Nat) (next:FT→Mem→Option α) (f:FT) (m:Mem):Option α:=bnd (lg ops.toList i) (pOneO P ops next f m)
noncomputable def pStep {α:Type} (ops:Array Oper) (i:Nat) (f:FT) (m:Mem) (next:FT→Mem→Option (List α)):Option (List α):=
  bnd (lg ops.toList i) fun o=>sOp P ec ops o next f m
noncomputable def pChk {α:Type} (ops:Array Oper) (cs:List Nat) (next:FT→Mem→Option α) (f:FT) (m:Mem):Option α:=
  match cs with
  | []=>next f m
  | cs=>on (cs.all (eHre P ops f m)) (next f m)
noncomputable def pAlt (ops:Array Oper) (i:Nat) (cs:List Nat) (p q:FT→Mem→Option (List (FT×Mem))) (f:FT) (m:Mem):Option (List (FT×Mem)):=
  bnd (pStep P ec ops i f m (pChk P ops cs p)) fun r1=>bnd (q f m) fun r2=>some (both r1 r2)
noncomputable def planF (ops:Array Oper) (p:Plan):FT→Mem→Option (List (FT×Mem)):=
  Plan.rec (motive:=fun _=>FT→Mem→Option (List (FT×Mem))) (fun f m=>some [(f,m)]) (fun i _ ih=>pOne P ops i ih) (fun i cs _ _ ip iq=>pAlt P ec ops i cs ip iq) (fun _ _=>some []) (fun _ _ _ _ _ _ _ _=>none) p
theorem planF_eq (ops:Array Oper):∀(p:Plan) (f:FT) (m:Mem),planF P ec ops p f m=ePlan P ec ops p f m
  | .done,_,_=>rfl
  | .none,_,_=>rfl
  | .late _ _ _ _,_,_=>rfl
  | .one i p,f,m=>by
    show pOne P ops i (planF P ec ops p) f m=_
    have e:lg ops.toList i=ops[i]? :=by simp
    simp only[pOne,ePlan,eOne,e]
    cases ops[i]? with
    | none=>rfl
    | some o=>
      simp only[bnd,pOneO]
      congr 1
      funext b
      have h:(sNext (planF P ec ops p) m)=fun f=>ePlan P ec ops p f m:=funext fun f=>planF_eq ops p f m
      rw[h,vOp_eq]
  | .alt i cs p q,f,m=>by
    show pAlt P ec ops i cs (planF P ec ops p) (planF P ec ops q) f m=_
    have e:lg ops.toList i=ops[i]? :=by simp
    have hc:pChk P ops cs (planF P ec ops p)=fun f m=>on (cs.all (eHre P ops f m)) (ePlan P ec ops p f m):=by
      funext f m
      cases cs with
      | nil=>simp only[pChk,List.all_nil,on,cond_true];exact planF_eq ops p f m
      | cons c cs=>simp only[pChk];rw[planF_eq ops p f m]
    simp only[pAlt,ePlan]
    rw[planF_eq ops q f m,hc]
    congr 1
    simp only[pStep,eStep,e]
    cases ops[i]? with
    | none=>rfl
    | some o=>
      simp only[bnd,sOp]
      congr 1
      funext b
      cases b
      · simp only[sDo,cond_false];rfl
      · simp only[sDo,cond_true,cOp_eq]
        congr 1
noncomputable def lateF (ops:Array Oper) (J:List Nat) (p2:FT→Mem→Option (List (FT×Mem))) (x:FT×Mem):Option (List (FT×Mem)):=
  match x with
  | (f,m)=>eAllocs P ops J f m p2
noncomputable def drawF (ops:Array Oper) (p:Plan):FT→Mem→Option (List (FT×Mem)):=
  match p with
  | .late J _ p1 p2=>fun f m=>on (zAll P ops J) (bndL (planF P ec ops p1 f m) (lateF P ops J (planF P ec ops p2)))
  | p=>planF P ec ops p
theorem drawF_eq (ops:Array Oper) (p:Plan) (f:FT) (m:Mem):drawF P ec ops p f m=eDraw P ec ops p f m:=by
  cases p with
  | late J dp p1 p2=>
    show on _ (bndL (planF P ec ops p1 f m) _)=_
    have e:planF P ec ops p2=fun f m=>ePlan P ec ops p2 f m:=funext fun f=>funext fun m=>planF_eq P ec ops p2 f m
    have e2:lateF P ops J (planF P ec ops p2)=fun x=>eAllocs P ops J x.1 x.2 fun f m=>ePlan P ec ops p2 f m:=by
      rw[e];rfl
    rw[planF_eq,e2];rfl
  | done=>exact planF_eq P ec ops .done f m
  | none=>exact planF_eq P ec ops .none f m
  | one i p=>exact planF_eq P ec ops (.one i p) f m
  | alt i cs p q=>exact planF_eq P ec ops (.alt i cs p q) f m
end
abbrev KF:=Code→FT→Mem→Option (List RX)
abbrev SF:=FT→Mem→Option (List RX)
noncomputable def kSkip:SF:=fun f m=>some [(.normal,f,m)]
noncomputable def kPair (x:FT×Mem):Option (List RX):=
  match x with
  | (f,m)=>some [(.normal,f,m)]
noncomputable def kRegion (P:Program) (ec:EC) (pl:Nat→Plan) (n0 id:Nat) (ops:Array Oper) (draw:Bool):SF:=fun f m=>bif draw then bndL (bnd (drawF P ec ops (pl id) f m) fun l=>some (eMrg n0 m.n l)) kPair else bif isMk (pl id) then eOpsB P ec ops ops.toList f m kSkip else opsF P ec ops ops.toList kSkip f m
noncomputable def kThen (r:SF) (h:HX) (f:FT) (m:Mem):Option (List RX):=
  match h with
  | .normal=>r f m
  | h=>some [(h,f,m)]
noncomputable def kThen' (r:SF) (x:RX):Option (List RX):=
  match x with
  | (h,f,m)=>kThen r h f m
noncomputable def kSeq (r:KF) (x y:Code):SF:=fun f m=>bndL (r x f m) (kThen' (r y))
noncomputable def kCondB (r:KF) (x y:Code) (f:FT) (m:Mem) (v:HV):Option (List RX):=
  match v with
  | .bool b=>bif b then r x f m else r y f m
  | .anyb=>bnd (r x f m) fun l=>bnd (r y f m) fun r=>some (l++r)
  | _=>none
noncomputable def kCond (r:KF) (c:Operand) (x y:Code):SF:=fun f m=>kCondB r x y f m (eV f.get c)
noncomputable def kOut (id:Nat) (x:RX):Option (List RX):=
  match x with
  | (.exit id',f,m)=>some [(bif Nat.beq id' id then .normal else .exit id',f,m)]
  | r=>some [r]
noncomputable def kBlock (r:KF) (id:Nat) (c:Code):SF:=fun f m=>bndL (r c f m) (kOut id)
noncomputable def kLoop (r:KF) (c:Code):SF:=fun f m=>bndL (r c f m) (kThen' (r (.loop c)))
noncomputable def kScope (r:KF) (c:Code):SF:=fun f m=>bndL (r c f m) fun x=>(match x with | (.goto _,_,_)=>none | r=>some [r])
noncomputable def kStep (P:Program) (ec:EC) (pl:Nat→Plan) (n0:Nat) (r:KF) (c:Code):SF:=
  Code.rec (motive:=fun _=>SF) kSkip (kRegion P ec pl n0) (fun x y _ _=>kSeq r x y) (fun c x y _ _=>kCond r c x y) (fun id c _=>kBlock r id c) (fun c _=>kLoop r c) (fun _ _ _ _ _ _=>fun _ _=>none) (fun id=>fun f m=>some [(.exit id,f,m)]) (fun c _=>kScope r c) (fun _=>kSkip) (fun l=>fun f m=>some [(.goto l,f,m)]) (fun f m=>some [(.ret,f,m)]) (fun _=>fun _ _=>none) c
noncomputable def evalF (P:Program) (ec:EC) (pl:Nat→Plan) (n0 n:Nat):KF:=
  Nat.rec (motive:=fun _=>KF) (fun _ _ _=>none) (fun _ r=>kStep P ec pl n0 r) n
theorem evalF_eq (P:Program) (ec:EC) (pl:Nat→Plan) (n0:Nat):∀(n:Nat) (c:Code) (f:FT) (m:Mem),evalF P ec pl n0 n c f m=eval P ec pl n0 n c f m
  | 0,_,_,_=>rfl
  | n+1,c,f,m=>by
    show kStep P ec pl n0 (evalF P ec pl n0 n) c f m=_
    have ih:∀c,evalF P ec pl n0 n c=eval P ec pl n0 n c:=fun c=>funext fun f=>funext fun m=>evalF_eq P ec pl n0 n c f m
    have th:∀(c:Code),(kThen' (evalF P ec pl n0 n c))=fun r=>(match r with | (.normal,f,m)=>eval P ec pl n0 n c f m | r=>some [r]):=by
      intro c
      funext x
      obtain⟨h,f,m⟩:=x
      cases h<;>simp only[kThen',kThen,ih]
    cases c with
    | region id ops draw=>
      cases draw
      · show (bif isMk (pl id) then eOpsB P ec ops ops.toList f m kSkip else opsF P ec ops ops.toList kSkip f m)=_
        rw[opsF_eq];rfl
      · show bndL (bnd (drawF P ec ops (pl id) f m) fun l=>some (eMrg n0 m.n l)) kPair=_
        rw[drawF_eq];rfl
    | seq x y=>show bndL (evalF P ec pl n0 n x f m) _=_;rw[th,ih];rfl
    | cond c x y=>
      show kCondB (evalF P ec pl n0 n) x y f m (eV f.get c)=_
      simp only[kCondB,eval,ih]
      cases eV f.get c with
      | bool b=>cases b<;>rfl
      | _=>rfl
    | block id c=>show bndL (evalF P ec pl n0 n c f m) _=_;rw[ih];rfl
    | loop c=>show bndL (evalF P ec pl n0 n c f m) _=_;rw[th,ih];rfl
    | scope c=>show bndL (evalF P ec pl n0 n c f m) _=_;rw[ih];rfl
    | _=>rfl
noncomputable def kJump (r:KF) (c:Code) (x:RX):Option (List RX):=
  match x with
  | (.goto l,f,m)=>bnd (findLabel c l) fun rest=>bndL (r rest f m) eNoGoto
  | x=>some [x]
noncomputable def kTh (y:SF) (r:RX):Option (List RX):=
  match r with
  | (.normal,f,m)=>y f m
  | r=>some [r]
noncomputable def kText (r:KF) (c:Code):SF:=
  match c with
  | .scope c=>fun f m=>bndL (r c f m) (kJump r c)
  | .seq x y=>fun f m=>bndL (r x f m) (kTh (kText r y))
  | c=>r c
theorem kText_eq (P:Program) (ec:EC) (pl:Nat→Plan) (n0 n:Nat):∀(c:Code) (f:FT) (m:Mem),kText (evalF P ec pl n0 n) c f m=eText P ec pl n0 n c f m:=by
  have e:evalF P ec pl n0 n=eval P ec pl n0 n:=funext fun c=>funext fun f=>funext fun m=>evalF_eq P ec pl n0 n c f m
  rw[e]
  intro c
  induction c with
  | scope c _=>
    intro f m
    show bndL _ _=bndL _ _
    congr 1
  | seq x y _ ih=>
    intro f m
    show bndL _ _=bndL _ _
    congr 1
    funext r
    obtain⟨hx,f,m⟩:=r
    cases hx<;>first | exact ih f m | rfl
  | _=>intro f m;rfl
/-- A call. -/
noncomputable def aBody (P:Program) (ec:EC) (pl:FuncId→Nat→Plan) (fuel:Nat) (g:FuncId) (args:List HV) (m:Mem) (fn:Func):Option (List RM):=
  bnd fn.body fun c=>FT.of fn.ntmps args fun f=>bnd (bndL (kText (evalF P ec (pl g) m.n fuel) c f m) (eEnd P fn.results.toList)) fun l=>some (eUni m.n l)
noncomputable def aText (P:Program) (ec:EC) (cov:FuncId→Bool) (pl:FuncId→Nat→Plan) (fuel:Nat) (g:FuncId) (args:List HV) (m:Mem):Option (List RM):=
  on (cov g) (bnd P.funcs[g]? (aBody P ec pl fuel g args m))
noncomputable def aOr {α:Type} (x:Option α) (y:Option α):Option α:=
  match x with
  | some r=>some r
  | none=>y
noncomputable def acall (P:Program) (orc:EC) (cov:FuncId→Bool) (pl:FuncId→Nat→Plan) (fuel:Nat) (d:Nat):EC:=
  Nat.rec (motive:=fun _=>EC) (fun _ _ _=>none) (fun _ ec g args m=>aOr (orc g args m) (aText P ec cov pl fuel g args m)) d
theorem acall_eq (P:Program) (orc:EC) (cov:FuncId→Bool) (pl:FuncId→Nat→Plan) (fuel:Nat):∀(d:Nat),acall P orc cov pl fuel d=ecall P orc cov pl fuel d
  | 0=>rfl
  | d+1=>by
    funext g args m
    show aOr (orc g args m) (aText P (acall P orc cov pl fuel d) cov pl fuel g args m)=_
    rw[acall_eq P orc cov pl fuel d]
    simp only[ecall]
    cases orc g args m with
    | some r=>rfl
    | none=>
      simp only[aOr,aText]
      congr 1
      cases P.funcs[g]? with
      | none=>rfl
      | some fn=>
        simp only[bnd,aBody]
        cases fn.body with
        | none=>rfl
        | some c=>
          simp only
          congr 1
          funext f
          rw[kText_eq]
theorem acall_h {P:Program} {orc:EC} {cov:FuncId→Bool} {pl:FuncId→Nat→Plan} {fuel:Nat} (hm:P.follows .mixedOrders=true)
    (ho:ECOk P orc) (hc:Covers P cov pl) (d:Nat):ECOk P (acall P orc cov pl fuel d):=by
  rw[acall_eq];exact ecall_h hm ho hc d
end Go.Eng
