/-
The cache of the document: frames, the line, who waits for a load. No program in sight.
No conditions.
-/
import Derived.Test.YtbmibhjjogobhaaGreatQHm4
import Derived.Test.YtbmibhjjogobhaaGreatQHm1
import Derived.Test.YtbmibhjjogobhaaGreatQEngX
import Derived.Test.YtbmibhjjogobhaaGreatQEngWd
import Derived.Test.YtbmibhjjogobhaaGreatQFactsA
import Derived.Test.YtbmibhjjogobhaaGreatQRunH
import Derived.Test.YtbmibhjjogobhaaGreatQTbB
set_option linter.unusedSectionVars false
set_option linter.unusedSimpArgs false
set_option linter.unusedVariables false
namespace Go.Ow
open Go Go.Eng Go.Mo
variable [zB]
structure Fm where
 st:Int
 blk:Int
 pins:Int
 by_:Int
 rf:Bool
 dy:Bool
 nd:Nd
 deriving DecidableEq
structure Sd where
 t:Int
 b:Int
 deriving DecidableEq
structure Ca where
 fs:List Fm
 line:List Sd
 loads:List Sd
 hand:Nat
def Fm.free:Fm:=⟨0, -1,0,0,false,false,Nd.none⟩
def Fm.has (b:Int) (f:Fm):Bool:=decide (f.blk=b)&&(decide (f.st=1) || decide (f.st=2))
def isT (t:Int):Bool:=decide (0≤t)&&decide (t<8)
def isB (b:Int):Bool:=decide (0≤b)&&decide (b<256)
def sat (l:List Sd) (t:Int):Option Nat:=l.findIdx? fun s=>decide (s.t=t)
def zPR (l:List Sd) (t:Int):List Sd:=l.filter fun s=>decide (s.t≠t)
def zIG (l:List Sd) (b:Int):List Int:=(l.filter fun s=>decide (s.b=b)).map Sd.t
def wtL (s:Sd):List HV:=[.int .i64 s.t,.int .i64 s.b,.bool (decide (s.b= -1))]
def frL (t:Fl) (f:Fm):List HV:=.int .i64 f.st:: .int .i64 f.blk:: .int .i64 (if f.st=3 then f.by_ else -1):: .int .i64 f.pins:: .bool f.rf:: .bool f.dy::ze t f.nd
def zNs (fs:List Fm):Option Nat:=fs.findIdx? fun f=>decide (f.st=0)
def zF7 (l:List Sd) (t:Int):Bool:=l.head?.all fun s=>decide (s.t=t)
namespace Ca
def find (c:Ca) (b:Int):Option Nat:=c.fs.findIdx? (Fm.has b)
def zPT (c:Ca):Option Nat:=zNs c.fs
def at_ (c:Ca) (i:Nat):Fm:=c.fs.getD i Fm.free
def zML (c:Ca) (t:Int):Bool:=zF7 c.line t
def ask (c:Ca) (t b:Int):Ca:=if (sat c.line t).isNone then {c with line:=c.line++[⟨t,b⟩]} else c
def leave (c:Ca) (t:Int):Ca:={c with line:=zPR c.line t}
/-- The frame that t may take now. -/
def zax (c:Ca) (t:Int):Option Nat:=if c.zML t then c.zPT else none
def put (c:Ca) (i:Nat) (f:Fm):Ca:={c with fs:=c.fs.set i f}
def fill (c:Ca) (b:Int) (n:Nd):Ca×List Int×Bool:=
 match c.find b with
 | some i=>if (c.at_ i).st=1 then ({c.put i {c.at_ i with st:=2,nd:=n} with loads:=c.loads.filter fun s=>decide (s.b≠b)},zIG c.loads b,true) else (c,[],false)
 | none=>(c,[],false)
def zFR (t:Int) (f:Fm):Bool:=decide (f.st=3)&&decide (f.by_=t)
def zAE (c:Ca) (t:Int):Ca:={c with fs:=c.fs.map fun f=>if zFR t f then Fm.free else f}
def name (c:Ca) (t b:Int) (n:Nd):Ca×Bool:=
 if isB b&&(c.find b).isNone then
  match c.fs.findIdx? (zFR t) with
  | some k=>(c.put k ⟨2,b,0,0,true,true,n⟩,true)
  | none=>(c,false)
 else (c,false)
/-- The place of a block's frame that is Ready. -/
def ready (c:Ca) (b:Int):Option Nat:=(c.find b).filter fun i=>decide ((c.at_ i).st=2)
def node (c:Ca) (b:Int):Option Nd:=(c.ready b).map fun i=>(c.at_ i).nd
def can (f:Fm):Bool:=decide (f.st=2)&&decide (f.pins=0)
def zN0 (c:Ca):Nat:=c.fs.countP fun f=>decide (f.st=0)
def may (c:Ca) (t:Int):Bool:=
 isT t&&(sat c.loads t).isNone&&match sat c.line t with
  | some k=>(decide (k=0)&&decide (0<c.zN0)) || (c.find (c.line.getD k ⟨0,0⟩).b).isSome
  | none=>true
end Ca
/-- The sweep:who goes,the next place,what is left of the marks;i:how many places were looked at. -/
def jT (can:List Bool) (hand:Nat):Nat→List Bool→Option Nat×List Bool
 | 0,ref=>(none,ref)
 | m+1,ref=>
  let k:=(hand+(2*can.length - (m+1))) % can.length
  if can.getD k false then (if ref.getD k false then jT can hand m (ref.set k false) else (some k,ref)) else jT can hand m ref
end Go.Ow
namespace Go.Ow
open Go Go.Eng Go.Mo
variable [zB]
/-- A map's entries:no key twice,none made twice,all made till now. -/
structure zFT (clock:Nat) (E:qf):Prop where
 keys:(E.map fun e=>e.2.1).Nodup
 born:(E.map fun e=>e.1).Nodup
 old:∀e∈E,e.1<clock
/-! ### Going through a map -/
/-- What the program's cache has:frames,a block's frame,who waits for a block's load,the line,the hand. -/
structure Cr where
 fs:List Fm
 at_:Int→Option Nat
 ld:Int→List Int
 line:List Sd
 hand:Nat
/-- Where it lies. -/
structure CaX where
 col:Nat→Nat
 pf:Nat
 vf:Nat
 ts:List (Fl×Fm)
 pa:Nat
 ka:Nat
 ea:qf
 pl:Nat
 kl:Nat
 el:qf
 o:Int→List Nat
 xl:HV
 ol:List Nat
def zM9 (ts:List (Fl×Fm)):List (List HV):=ts.map fun p=>frL p.1 p.2
structure zcl (PS:PL) (n:Nat) (own:List Nat) (c:Cr) (X:CaX):Prop where
 hn:zA PS n=.arr 0 5 [[.sl X.pf X.vf 0 c.fs.length none,.ref X.pa 0,.ref X.pl 0,X.xl,.int .i64 c.hand]] false
 hf:zA PS X.pf=.arr X.vf 11 (zM9 X.ts) true
 fs:X.ts.map Prod.snd=c.fs
 ne:c.fs≠[]
 ha:zA PS X.pa=.map 0 X.ka .i64 X.ea
 oka:zFT X.ka X.ea
 ma:∀b,vR b X.ea=(c.at_ b).map fun i=>.int .i64 i
 hl:zA PS X.pl=.map 0 X.kl .i64 X.el
 okl:zFT X.kl X.el
 ml:∀b,SlO PS 1 ((vR b X.el).getD (.imm true [])) (X.o b) ((c.ld b).map zY)
 line:SlO PS 3 X.xl X.ol (c.line.map wtL)
 cn:X.col n=0
 cf:X.col X.pf=1
 ca:X.col X.pa=2
 cl:X.col X.pl=3
 co:∀q∈X.ol,X.col q=4
 cb:∀b,∀q∈X.o b,X.col q=5+b.toNat∧0≤b
 mn:n∈own
 mf:X.pf∈own
 ma':X.pa∈own
 ml':X.pl∈own
 mo:∀q∈X.ol,q∈own
 mb:∀b,∀q∈X.o b,q∈own
 lt:∀q∈own,q<PS.length
section
variable {PS PS':PL} {n:Nat} {own:List Nat} {c:Cr} {X:CaX}
end
end Go.Ow
namespace Go.Mo
open Go Go.Eng
variable [zB]
structure Wn where
 t:Int
 w:Bool
 deriving DecidableEq
structure Lt where
 rd:List Int
 wr:Int
 q:List Wn
 deriving DecidableEq
/-- How many are below. -/
def below (l:List Int) (t:Int):Nat:=(l.takeWhile fun x=>decide (x<t)).length
def ins (l:List Int) (t:Int):List Int:=l.take (below l t)++t::l.drop (below l t)
def Lt.none:Lt:=⟨[], -1,[]⟩
def Lt.has (l:Lt) (t:Int):Bool:=decide (l.wr=t) || l.rd.contains t
def Lt.waits (l:Lt) (t:Int):Bool:=l.q.any fun a=>decide (a.t=t)
def Lt.opn (l:Lt) (w:Bool):Bool:=decide (l.wr= -1)&&(!w || l.rd.isEmpty)
def Lt.zAE (l:Lt) (t:Int) (w:Bool):Lt:=if w then {l with wr:=t} else {l with rd:=ins l.rd t}
def Lt.may (l:Lt) (t:Int):Bool:=decide (0≤t)&& !l.has t&& !l.waits t
def Lt.can (l:Lt) (t:Int) (w:Bool):Bool:=l.may t&&l.q.isEmpty&&l.opn w
/-- Those that wait are let in,as far as can be:what stands then,and who. -/
def lets (rd:List Int) (wr:Int):List Wn→Lt×List Int
 | []=>(⟨rd,wr,[]⟩,[])
 | a::q=>if Lt.opn ⟨rd,wr,[]⟩ a.w then (let m:=Lt.zAE ⟨rd,wr,[]⟩ a.t a.w;let r:=lets m.rd m.wr q;(r.1,a.t::r.2)) else (⟨rd,wr,a::q⟩,[])
def Lt.take (l:Lt) (t:Int) (w:Bool):Lt×Bool:=if l.can t w then (l.zAE t w,true) else if l.may t then ({l with q:=l.q++[⟨t,w⟩]},false) else (l,false)
def Lt.drop (l:Lt) (t:Int):Lt×List Int:=lets (l.rd.filter fun x=>decide (x≠t)) (if l.wr=t then -1 else l.wr) (l.q.filter fun a=>decide (a.t≠t))
/-- Rising,one behind the other. -/
def Up:List Int→Prop
 | []=>True
 | a::l=>(∀b∈l,a<b)∧Up l
def Diff:List Int→Prop
 | []=>True
 | a::l=>a∉l∧Diff l
def isT (t:Int):Prop:=0≤t∧t<8
/-- All that holds of a latch,always. -/
structure okL (l:Lt):Prop where
 up:Up l.rd
 rd:∀t∈l.rd,isT t
 wr:l.wr= -1∨isT l.wr
 diff:Diff (l.q.map Wn.t)
 q:∀a∈l.q,isT a.t
 apart:∀a∈l.q,a.t∉l.rd
end Go.Mo
namespace Go.Ow
open Go Go.Eng Go.Mo
variable [zB]
/-- All that holds of a cache,always;no pins are above B. -/
structure okC (B:Int) (c:Ca):Prop where
 len:c.fs.length≤64
 one:1≤c.fs.length
 nd:∀f∈c.fs,okN f.nd
 fit:∀f∈c.fs,f.dy=true→yf f.nd
 pins:∀f∈c.fs,0≤f.pins∧f.pins≤B
 blk:∀(b:Int) (i j:Nat),(∃f:Fm,c.fs[i]? =some f∧f.has b=true)→(∃f:Fm,c.fs[j]? =some f∧f.has b=true)→i=j
 blkB:∀f∈c.fs,f.st=1∨f.st=2→isB f.blk=true
 no:∀f∈c.fs,f.st≠1→f.st≠2→f.blk= -1
 st:∀f∈c.fs,f.st=0∨f.st=1∨f.st=2∨f.st=3
 line:Diff (c.line.map Sd.t)
 lineT:∀s∈c.line,isT s.t=true∧(s.b= -1∨isB s.b=true)
 loads:Diff (c.loads.map Sd.t)
 loadsT:∀s∈c.loads,isT s.t=true∧isB s.b=true
 hand:c.hand<c.fs.length
 ld:∀f∈c.fs,f.st=1→f.dy=false
section
variable {α:Type} {p:α→Bool} {l:List α} {i:Nat} {x:α}
end
end Go.Ow
namespace Go.Eng
open Go
variable [zB]
section
variable {hop':HOp} {hd hd':qY}
def gy (h:HOp):Prop:=∀(o:Oper) (fr:Fr) (PS:PL) (K K':HV→PL→Prop),(∀v PS,K v PS→K' v PS)→h o fr PS K→h o fr PS K'
def UM (hd hd':qY):Prop:=∀(id:Nat) (ops:Array Oper) (K K':Fr→PL→Prop) (fr:Fr) (PS:PL),(∀fr PS,K fr PS→K' fr PS)→hd id ops K fr PS→hd' id ops K' fr PS
theorem VL (hm:gy hop') {ops:Array Oper} {K K':Fr→PL→Prop} (hk:∀fr PS,K fr PS→K' fr PS):∀(l:List Oper) (fr:Fr) (PS:PL),zf hop' ops l K fr PS→zf hop' ops l K' fr PS
 | [],fr,PS,h=>hk fr PS h
 | o::os,fr,PS,h=>by
  simp only[zf] at h ⊢
  cases hg:o.guard with
  | none=>rw[hg] at h;exact hm _ _ _ _ _ (fun v PS'=>VL hm hk os _ _) h
  | some g=>rw[hg] at h;exact zF0 (hm _ _ _ _ _ (fun v PS'=>VL hm hk os _ _)) (VL hm hk os _ _) h
theorem YA (hm:gy hop') (hd0:UM hd hd'):∀(c:Code) (Q Q':HX→Fr→PL→Prop) (_:∀x fr PS,Q x fr PS→Q' x fr PS) (fr:Fr) (PS:PL),hvc hop' hd c Q fr PS→hvc hop' hd' c Q' fr PS:=by
 intro c
 induction c with
 | skip=>intro Q Q' hq fr PS h;exact hq _ _ _ h
 | region id ops draw=>
  intro Q Q' hq fr PS h
  cases draw with
  | true=>exact hd0 _ _ _ _ _ _ (hq .normal) h
  | false=>exact VL hm (hq .normal) _ _ _ h
 | seq x y ihx ihy=>
  intro Q Q' hq fr PS h
  refine ihx _ _ (fun x fr PS hh=>?_) fr PS h
  cases x with
  | normal=>exact ihy _ _ hq _ _ hh
  | exit id=>exact hq _ _ _ hh
  | goto l=>exact hq _ _ _ hh
  | ret=>exact hq _ _ _ hh
 | cond c x y ihx ihy=>intro Q Q' hq fr PS h;exact Ge (ihx _ _ hq _ _) (ihy _ _ hq _ _) h
 | block id c ih=>
  intro Q Q' hq fr PS h
  refine ih _ _ (fun x fr PS hh=>?_) fr PS h
  cases x with
  | normal=>exact hq _ _ _ hh
  | exit id'=>
   simp only[HX.inBlock] at hh ⊢
   split
   ·rename_i hi;rw[if_pos hi] at hh;exact hq _ _ _ hh
   ·rename_i hi;rw[if_neg hi] at hh;exact hq _ _ _ hh
  | goto l=>exact hq _ _ _ hh
  | ret=>exact hq _ _ _ hh
 | loop c ih=>
  intro Q Q' hq fr PS h
  obtain⟨I,h0,hs⟩:=h
  refine⟨I,h0,fun n fr PS hi=>ih _ _ (fun x fr PS hh=>?_) fr PS (hs n fr PS hi)⟩
  cases x with
  | normal=>exact hh
  | exit id=>exact hq _ _ _ hh
  | goto l=>exact hq _ _ _ hh
  | ret=>exact hq _ _ _ hh
 | scope c ih=>
  intro Q Q' hq fr PS h
  refine ih _ _ (fun x fr PS hh=>?_) fr PS h
  cases x with
  | normal=>exact hq _ _ _ hh
  | exit id=>exact hq _ _ _ hh
  | goto l=>exact hh
  | ret=>exact hq _ _ _ hh
 | exit id=>intro Q Q' hq fr PS h;exact hq _ _ _ h
 | label l=>intro Q Q' hq fr PS h;exact hq _ _ _ h
 | goto l=>intro Q Q' hq fr PS h;exact hq _ _ _ h
 | ret=>intro Q Q' hq fr PS h;exact hq _ _ _ h
 | _=>intro Q Q' hq fr PS h;exact h.elim
end
section
variable {P:Program} {pu:Pu} {pl:Nat→zL}
theorem Wz:gy (hop P):=fun _ _ _ _ _ hk h=>XH (fun v PS' _=>hk v PS') h
theorem zI4:UM (yW P pu pl) (yW P pu pl):=fun _ _ _ _ fr PS hk h=>Vc hk _ fr PS h
theorem Kg {n0:Nat}:UM (yW P pu pl) (qi n0 (yW P pu pl)):=fun _ _ _ _ fr PS hk h=>Vc (fun fr PS h=>⟨fr,PS,.refl _ _ _,hk fr PS h⟩) _ fr PS h
theorem zFJ {n0:Nat}:UM (qi n0 (yW P pu pl)) (qi n0 (yW P pu pl)):=fun _ _ _ _ fr PS hk h=>Vc (fun _ _ ⟨fr',PS',h1,h2⟩=>⟨fr',PS',h1,hk _ _ h2⟩) _ fr PS h
theorem zHZ {n ver:Nat} {K K':HV→PL→Prop} (hk:∀v PS,K v PS→K' v PS) {x:HX} {PS:PL} {q:zC} (h:ui n ver K x PS q):ui n ver K' x PS q:=by
 unfold ui at*
 split at h
 ·exact⟨h.1,hk _ _ h.2⟩
 ·exact h.elim
theorem zDR {n ver:Nat} {B B':PL→Prop} (hb:∀PS,B PS→B' PS) {PS:PL} {q:zC} (h:jc ver n B PS q):jc ver n B' PS q:=by
 unfold jc at*
 split at h
 ·exact⟨h.1,hb _ h.2⟩
 ·exact h.elim
/-- A call of yield,drawn regions plain. -/
theorem zNk {h':HOp} (hm:gy h') {n ver gl:Nat} {lf:Fr} {ps:List Tmp} {c1 c2:Code} {xs:List HV} {PS:PL} {K:HV→PL→Prop} (tb:Nat→List Row)
  (hg:zA PS n=.rnd ver .ready none lf ps c1 c2 gl) (hl:xs.length=ps.length) (h1:wz c1=true) (h2:wz c2=true) (h3:yL pu tb pl c1=true) (h4:yL pu tb pl c2=true)
  (h:hvc h' (yW P pu pl) c1 (HX.then (fun fr1 PS1=>jc ver n (fun PSb=>
   hvc h' (yW P pu pl) c2 (fun x _ PS2=>ui n ver K x PS2 (zA PS2 n)) fr1 PSb) PS1 (zA PS1 n)) (fun _ _ _=>False)) (ju ps xs lf) PS):kj P pu h' n ver xs PS K (zA PS n):=by
 rw[hg]
 refine⟨rfl,hl,h1,h2,tb,pl,h3,h4,YA hm Kg _ _ _ (fun x fr PS hh=>?_) _ _ h⟩
 cases x with
 | normal=>
  rw[HX.then] at hh ⊢
  exact zDR (fun PSb hb=>YA hm Kg _ _ _ (fun _ _ _ h=>h) _ _ hb) hh
 | _=>exact hh
theorem zES {h':HOp} (hm:gy h') {n ver:Nat} {xs:List HV} {PS:PL} {K K':HV→PL→Prop} (hk:∀v PS,K v PS→K' v PS) {q:zC} (h:kj P pu h' n ver xs PS K q):kj P pu h' n ver xs PS K' q:=by
 unfold kj at*
 split at h
 ·obtain⟨e,hl,h1,h2,tb,pl,h3,h4,h⟩:=h
  refine⟨e,hl,h1,h2,tb,pl,h3,h4,YA hm zFJ _ _ _ (fun x fr PS hh=>?_) _ _ h⟩
  cases x with
  | normal=>
   rw[HX.then] at hh ⊢
   exact zDR (fun PSb hb=>YA hm zFJ _ _ _ (fun x fr PS hh=>zHZ hk hh) _ _ hb) hh
  | _=>exact hh
 ·exact h.elim
theorem zCN {h':HOp} (hm:gy h'):gy (wO P pu h'):=by
 intro o fr PS K K' hk h
 unfold wO at*
 split at h
 ·unfold xU at*
  split at h
  ·exact zES hm hk h
  ·exact hm _ _ _ _ _ hk h
 ·exact hm _ _ _ _ _ hk h
/-- A function's text,loops over functions in it,drawn regions plain. -/
def qU (P:Program) (gl:Nat) (hop:HOp) (hdraw:qY):Code→(HX→Fr→PL→Prop)→Fr→PL→Prop
 | .rangeFunc f ps c1 c2,Q,fr,PS=>hrf P gl fr PS ps c1 c2 Q (wu (ev fr f))
 | .seq x y,Q,fr,PS=>qU P gl hop hdraw x (HX.then (fun fr PS=>qU P gl hop hdraw y Q fr PS) Q) fr PS
 | .cond c x y,Q,fr,PS=>wU (qU P gl hop hdraw x Q fr PS) (qU P gl hop hdraw y Q fr PS) (ev fr c)
 | .block id c,Q,fr,PS=>qU P gl hop hdraw c (HX.inBlock id Q) fr PS
 | c,Q,fr,PS=>hvc hop hdraw c Q fr PS
theorem zKh {n:Nat} {fr:Fr} {Q Q':HX→Fr→PL→Prop} (hq:∀x fr PS,Q x fr PS→Q' x fr PS) {PS:PL} {q:zC} (h:gG n fr Q PS q):gG n fr Q' PS q:=by
 unfold gG at*
 split at h
 ·exact⟨h.1,hq _ _ _ h.2⟩
 ·exact⟨h.1,hq _ _ _ h.2⟩
 ·exact⟨h.1,hq _ _ _ h.2⟩
 ·exact h.elim
theorem zM1 {gl:Nat} {h':HOp} (hm:gy h'):∀(c:Code) (Q Q':HX→Fr→PL→Prop) (_:∀x fr PS,Q x fr PS→Q' x fr PS) (fr:Fr) (PS:PL),qU P gl h' (yW P pu pl) c Q fr PS→vd P gl h' (yW P pu pl) c Q' fr PS:=by
 intro c
 induction c with
 | seq x y ihx ihy=>
  intro Q Q' hq fr PS h
  refine ihx _ _ (fun x fr PS hh=>?_) fr PS h
  cases x with
  | normal=>exact ihy _ _ hq _ _ hh
  | exit id=>exact hq _ _ _ hh
  | goto l=>exact hq _ _ _ hh
  | ret=>exact hq _ _ _ hh
 | cond c x y ihx ihy=>intro Q Q' hq fr PS h;exact Ge (ihx _ _ hq _ _) (ihy _ _ hq _ _) h
 | block id c ih=>
  intro Q Q' hq fr PS h
  refine ih _ _ (fun x fr PS hh=>?_) fr PS h
  cases x with
  | normal=>exact hq _ _ _ hh
  | exit id'=>
   simp only[HX.inBlock] at hh ⊢
   split
   ·rename_i hi;rw[if_pos hi] at hh;exact hq _ _ _ hh
   ·rename_i hi;rw[if_neg hi] at hh;exact hq _ _ _ hh
  | goto l=>exact hq _ _ _ hh
  | ret=>exact hq _ _ _ hh
 | rangeFunc f ps x y _ _=>
  intro Q Q' hq fr PS h
  show hrf P gl fr PS ps x y Q' (wu (ev fr f))
  have h:hrf P gl fr PS ps x y Q (wu (ev fr f)):=h
  unfold hrf at*
  split at h
  ·exact⟨h.1,h.2.mono fun _ PS' hh=>zKh hq hh⟩
  ·exact h.elim
 | _=>intro Q Q' hq fr PS h;exact YA hm Kg _ _ _ hq _ _ h
theorem zBD {f:FuncId} {fn:Func} {c:Code} {args:List HV} {K:HV→PL→Prop} {PS:PL} (tb:Nat→List Row) (pl:Nat→zL) (pu:Pu) (hm:P.follows .mixedOrders=true) (hfn:P.funcs[f]? =some fn) (hb:fn.body=some c) (hn:jS c=true) (hp:yL pu tb pl c=true)
  (h:qU P 0 (wO P pu (hop P)) (yW P pu pl) c (je P fn.results.toList K) (vE fn.ntmps args) PS):zI P f args PS K:=
 zPK (gl:=0) UN tb pl pu hm hfn hb hn hp (zM1 (zCN Wz) c _ _ (fun _ _ _ h=>h) _ _ h)
/-- A loop,by what it carries,in a text that calls yield. -/
theorem zQo {h':HOp} (hm:gy h') {c:Code} {Q:HX→Fr→PL→Prop} {fr:Fr} {PS:PL} {α:Type} (T:List Bool) (C:α→List (Nat×HV)) (μ:α→Nat) (R:α→PL→Prop) (a0:α)
  (h0:R a0 PS) (hw:WkF fr (jO (C a0) (vJ T fr)))
  (step:∀a PS1,R a PS1→hvc h' (yW P pu pl) c (HX.then (fun fr2 PS2=>∃b,μ b<μ a∧R b PS2∧WkF fr2 (jO (C b) (vJ T fr))) Q) (jO (C a) (vJ T fr)) PS1):
  yQ h' (yW P pu pl) c Q fr PS:=by
 refine⟨fun n f PS1=>∃a,μ a=n∧R a PS1∧f=jO (C a) (vJ T fr),⟨μ a0,_,PS,hw.kK,a0,rfl,h0,rfl⟩,?_⟩
 rintro n f PS1 ⟨a,rfl,hR,rfl⟩
 refine YA hm zI4 c _ _ (fun x fr1 PS1 hh=>?_) _ _ (step a PS1 hR)
 cases x with
 | normal=>obtain⟨b,h1,h2,h3⟩:=hh;exact⟨μ b,_,PS1,h1,h3.kK,b,rfl,h2,rfl⟩
 | exit id=>exact hh
 | goto l=>exact hh
 | ret=>exact hh
end
/-! ### The rules -/
section
variable (P:Program) (pu:Pu) (gl:Nat) (h':HOp) (hd:qY) (fr fr':Fr) (PS PS':PL) (K:HV→PL→Prop) (Q:HX→Fr→PL→Prop) (d:Option Tmp) (ty:TypeId) (p:String) (af:Array Edge) (g:Option (Nat×Bool))
@[congr] theorem zTh {c:Code} {dd:Prop} (_hd:zi=dd):qU P gl h' hd c Q fr PS=qU P gl h' hd c Q fr PS:=rfl
@[go_sem ↓] theorem zc3 (x y:Code):qU P gl h' hd (.seq x y) Q fr PS=qU P gl h' hd x (HX.then (fun fr PS=>qU P gl h' hd y Q fr PS) Q) fr PS:=_root_.id rfl
@[go_sem ↓] theorem zWs (c:Operand) (x y:Code):qU P gl h' hd (.cond c x y) Q fr PS=wU (qU P gl h' hd x Q fr PS) (qU P gl h' hd y Q fr PS) (ev fr c):=_root_.id rfl
@[go_sem ↓] theorem zYK (id:Nat) (c:Code):qU P gl h' hd (.block id c) Q fr PS=qU P gl h' hd c (HX.inBlock id Q) fr PS:=_root_.id rfl
@[go_sem ↓] theorem zXX (f:Operand) (ps:Array Tmp) (x y:Code):qU P gl h' hd (.rangeFunc f ps x y) Q fr PS= @jB ⟨hrf P gl fr PS ps x y Q (wu (ev fr f))⟩:=_root_.id rfl
@[go_sem ↓] theorem zaE (id:Nat) (ops:Array Oper) (b:Bool):qU P gl h' hd (.region id ops b) Q fr PS=hvc h' hd (.region id ops b) Q fr PS:=_root_.id rfl
@[go_sem ↓] theorem zZa:qU P gl h' hd .skip Q fr PS=Q .normal fr PS:=_root_.id rfl
@[go_sem ↓] theorem zSv:qU P gl h' hd .ret Q fr PS=Q .ret fr PS:=_root_.id rfl
@[go_sem ↓] theorem zWz (c:Code):qU P gl h' hd (.loop c) Q fr PS=hvc h' hd (.loop c) Q fr PS:=_root_.id rfl
@[congr] theorem zV6 {xs xs':List HV} {A:Prop} {x x':HV} {dd:Prop} (_hd:zi=dd) (h:xs=xs') (h2:x=x'):xU P pu h' xs PS K A x=xU P pu h' xs' PS K A x':=by rw[h,h2]
@[go_sem ↓] theorem zTC (f:Operand) (xs:List Operand) (ts:Array TypeId):wO P pu h' ⟨d,.call ⟨.value f,List.toArray xs,ts⟩,ty,p,af,g⟩ fr PS K=xU P pu h' (xs.map (ev fr)) PS K (h' ⟨d,.call ⟨.value f,List.toArray xs,ts⟩,ty,p,af,g⟩ fr PS K) (ev fr f):=_root_.id rfl
@[go_sem ↓] theorem zUO (b:Builtin) (xs:Array Operand) (ts:Array TypeId):wO P pu h' ⟨d,.call ⟨.builtin b,xs,ts⟩,ty,p,af,g⟩ fr PS K=h' ⟨d,.call ⟨.builtin b,xs,ts⟩,ty,p,af,g⟩ fr PS K:=_root_.id rfl
@[go_sem ↓,go_sem] theorem zas (xs:List HV) (A:Prop) (n ver:Nat):xU P pu h' xs PS K A (.ref n ver)= @jB ⟨kj P pu h' n ver xs PS K (zA PS n)⟩:=_root_.id rfl
@[go_sem ↓,go_sem] theorem zUe (xs:List HV) (A:Prop) (v:Value):xU P pu h' xs PS K A (.cst v)=A:=_root_.id rfl
@[go_sem ↓] theorem zap (x:Operand):wO P pu h' ⟨d,.move x,ty,p,af,g⟩ fr PS K=h' ⟨d,.move x,ty,p,af,g⟩ fr PS K:=_root_.id rfl
@[go_sem ↓] theorem zcD (x:Operand):wO P pu h' ⟨d,.assign x,ty,p,af,g⟩ fr PS K=h' ⟨d,.assign x,ty,p,af,g⟩ fr PS K:=_root_.id rfl
@[go_sem ↓] theorem zZV (c x y:Operand):wO P pu h' ⟨d,.pick c x y,ty,p,af,g⟩ fr PS K=h' ⟨d,.pick c x y,ty,p,af,g⟩ fr PS K:=_root_.id rfl
@[go_sem ↓] theorem zUD (t:TypeId) (x:Operand):wO P pu h' ⟨d,.load t x,ty,p,af,g⟩ fr PS K=h' ⟨d,.load t x,ty,p,af,g⟩ fr PS K:=_root_.id rfl
@[go_sem ↓] theorem zcm (op:BinOp) (t:TypeId) (x y:Operand) (t2:TypeId):wO P pu h' ⟨d,.binOp op t x y t2,ty,p,af,g⟩ fr PS K=h' ⟨d,.binOp op t x y t2,ty,p,af,g⟩ fr PS K:=_root_.id rfl
@[go_sem ↓] theorem zT3 (op:UnOp) (t:TypeId) (x:Operand):wO P pu h' ⟨d,.unOp op t x,ty,p,af,g⟩ fr PS K=h' ⟨d,.unOp op t x,ty,p,af,g⟩ fr PS K:=_root_.id rfl
@[go_sem ↓] theorem zUa (t:TypeId) (x y:Operand):wO P pu h' ⟨d,.store t x y,ty,p,af,g⟩ fr PS K=h' ⟨d,.store t x y,ty,p,af,g⟩ fr PS K:=_root_.id rfl
@[go_sem ↓] theorem zZn (t:TypeId) (x:Operand):wO P pu h' ⟨d,.box t x,ty,p,af,g⟩ fr PS K=h' ⟨d,.box t x,ty,p,af,g⟩ fr PS K:=_root_.id rfl
@[go_sem ↓] theorem zUE (t:TypeId):wO P pu h' ⟨d,.alloc t,ty,p,af,g⟩ fr PS K=h' ⟨d,.alloc t,ty,p,af,g⟩ fr PS K:=_root_.id rfl
end
section
variable (n ver gl:Nat) (B:PL→Prop) (K:HV→PL→Prop) (Q:HX→Fr→PL→Prop) (fr lf:Fr) (PS PS':PL) (ps:List Tmp) (c1 c2:Code) (x:HX) (q q':zC)
@[congr] theorem zSj {dd:Prop} (_hd:zi=dd) (h:PS=PS') (h2:q=q'):jc ver n B PS q=jc ver n B PS' q':=by rw[h,h2]
@[congr] theorem zaF {dd:Prop} (_hd:zi=dd) (h:PS=PS') (h2:q=q'):ui n ver K x PS q=ui n ver K x PS' q':=by rw[h,h2]
@[congr] theorem zWB {dd:Prop} (_hd:zi=dd) (h:PS=PS') (h2:q=q'):gG n fr Q PS q=gG n fr Q PS' q':=by rw[h,h2]
@[go_sem ↓,go_sem] theorem zSW (ver':Nat):jc ver n B PS (.rnd ver' .ready none lf ps c1 c2 gl)=(ver=ver'∧B (PS.set n (.rnd ver .busy none lf ps c1 c2 gl))):=_root_.id rfl
@[go_sem ↓,go_sem] theorem zZI (ver':Nat):ui n ver K .normal PS (.rnd ver' .busy none lf ps c1 c2 gl)=(ver=ver'∧K (.bool true) (PS.set n (.rnd ver .ready none lf ps c1 c2 gl))):=_root_.id rfl
@[go_sem ↓,go_sem] theorem zSF (ver':Nat):ui n ver K .ret PS (.rnd ver' .busy none lf ps c1 c2 gl)=(ver=ver'∧K (.bool false) (PS.set n (.rnd ver .done (some .ret) lf ps c1 c2 gl))):=_root_.id rfl
@[go_sem ↓,go_sem] theorem zSp:gG n fr Q PS (.rnd ver .ready none lf ps c1 c2 gl)=(ver=0∧Q .normal fr (PS.set n .dead)):=_root_.id rfl
@[go_sem ↓,go_sem] theorem zY7:gG n fr Q PS (.rnd ver .done (some .ret) lf ps c1 c2 gl)=(ver=0∧Q .ret fr (PS.set n .dead)):=_root_.id rfl
@[go_sem] theorem zYf (xs:List HV):ju [] xs fr=fr:=_root_.id rfl
@[go_sem] theorem zUw (t:Tmp) (ts:List Tmp) (y:HV) (ys:List HV):ju (t::ts) (y::ys) fr=ju ts ys (xN fr t y):=by unfold xN;rfl
end
end Go.Eng
namespace Go.Ow
open Go Go.Eng Go.Mo
variable [zB]
def bL (b:Bool):List HV:=[.bool b]
end Go.Ow
namespace Go.Proofs.YtbmibhjjogobhaaGreat
open Go Go.Eng Go.Mo Go.Ow
variable [zB]
set_option maxRecDepth 20000
attribute [local irreducible] hvc zf hop zg yI zb zu yQ
attribute [local irreducible] qU
theorem zGo {c:Code} {args:List HV} {PS:PL} {K:HV→PL→Prop} (hc:Tryz.f98.body=some c) (h:qU Tryz.prog 0 (wO Tryz.prog pu (hop Tryz.prog)) (yW Tryz.prog pu Zs) c (je Tryz.prog [.cell 6 3,.cell 7 3,.cell 8 141] K) (vE 52 args) PS):zI Tryz.prog 98 args PS K:=by
 have hp:(match Tryz.f98.body with | some c=>yL pu JT Zs c&&jS c | none=>true)=true:=by kernel_rfl
 rw[hc] at hp
 simp only[Bool.and_eq_true] at hp
 refine zBD JT Zs pu mixed Tryz.func98 hc hp.2 hp.1 ?_
 rw[Tryz.results98,Tryz.ntmps98]
 exact h
theorem zPg {c:Code} {args:List HV} {PS:PL} {K:HV→PL→Prop} (hc:Tryz.f242.body=some c) (h:qU Tryz.prog 0 (wO Tryz.prog pu (hop Tryz.prog)) (yW Tryz.prog pu pl0) c (je Tryz.prog [] K) (vE 19 args) PS):zI Tryz.prog 242 args PS K:=by
 have hp:(match Tryz.f242.body with | some c=>yL pu tb0 pl0 c&&jS c | none=>true)=true:=by kernel_rfl
 rw[hc] at hp
 simp only[Bool.and_eq_true] at hp
 refine zBD tb0 pl0 pu mixed Tryz.func242 hc hp.2 hp.1 ?_
 rw[Tryz.results242,Tryz.ntmps242]
 exact h
/-- Round by round. -/
theorem zNt {PS:PL} {K:HV→PL→Prop} (R:Nat→PL→Prop) (n pm pf:Nat) (m hand:Nat) (h0:hand<m) (h1:m≤64)
  (hm:∀i PS,R i PS→zA PS pm=.arr 0 1 [[.int .i64 m]] false) (hf:∀i PS,R i PS→zA PS pf=.arr 0 1 [[.int .i64 hand]] false)
  (hR:R 0 PS)
  (step:∀i PS',i<2*m→R i PS'→kj Tryz.prog pu (hop Tryz.prog) n 0 [.int .i64 ((hand+i) % m:Nat)] PS' (fun v PS2=>(v=.bool true∧R (i+1) PS2)∨(v=.bool false∧K (.tup []) PS2)) (zA PS' n))
  (fin:∀PS',R (2*m) PS'→K (.tup []) PS'):zI Tryz.prog 242 [.ref n 0,.ptr pm 0 0 0,.ptr pf 0 0 0] PS K:=by
 refine zPg (by unfold Tryz.f242;exact rfl) ?_
 simp only[go_sem,seval, -List.reduceReplicate,hm _ _ hR]
 refine⟨⟨by omega,by omega⟩,zG (zQo (α:=Nat) (zCN Wz) [false,false,false,false,true,false,false,false,true,true,true,true,true,true,true,true,true,true,true] (fun i=>[(7,.int .i64 i)]) (fun i=>2*m - i) (fun i PS'=>i≤2*m∧R i PS') 0 ⟨Nat.zero_le _,hR⟩ ?_ ?_)⟩
 ·simp only[go_sem,seval, -List.reduceReplicate,Int.natCast_zero]
 ·rintro i PS2 ⟨hi,h2⟩
  by_cases hlt:i<2*m
  ·have e1:((i:Int)<2*(m:Int))=True:=eq_true (by omega)
   simp only[go_sem,seval, -List.reduceReplicate,e1,hm _ _ h2,hf _ _ h2]
   have e2:((hand:Int)+(i:Int)).tmod (m:Int)=((hand+i) % m:Nat):=by
    rw[Int.tmod_eq_emod_of_nonneg (by omega)];simp
   rw[e2]
   refine⟨⟨by omega,by omega⟩,by omega,zG (zES Wz ?_ (step i _ hlt h2))⟩
   rintro v PS3 (⟨rfl,h3⟩ | ⟨rfl,h3⟩)
   ·simp only[go_sem,seval, -List.reduceReplicate]
    exact⟨⟨by omega,by omega⟩,i+1,by omega,⟨by omega,h3⟩,rfl⟩
   ·simp only[go_sem,seval, -List.reduceReplicate]
    exact h3
  ·have e1:((i:Int)<2*(m:Int))=False:=eq_false (by omega)
   simp only[go_sem,seval, -List.reduceReplicate,e1]
   have:i=2*m:=by omega
   subst this
   exact fin _ h2
/-- A loop over the places. -/
theorem zIJ {PS:PL} {fr:Fr} {ps:Array Tmp} {c1 c2:Code} {Q:HX→Fr→PL→Prop} {pl:Nat→zL} (tb:Nat→List Row) (R:Nat→PL→Prop) (pm pf:Nat) (m hand n:Nat) (hn:PS.length=n) (h0:hand<m) (h1:m≤64)
  (hl:ps.toList.length=1) (p1:wz c1=true) (p2:wz c2=true) (p3:yL pu tb pl c1=true) (p4:yL pu tb pl c2=true)
  (hm:∀i PS,R i PS→zA PS pm=.arr 0 1 [[.int .i64 m]] false) (hf:∀i PS,R i PS→zA PS pf=.arr 0 1 [[.int .i64 hand]] false)
  (hR:∀q,R 0 (PS++[q]))
  (step:∀i PS' lf d1 d2,i<2*m→R i PS'→zA PS' n=.rnd 0 .ready none lf ps.toList d1 d2 0→
   hvc (hop Tryz.prog) (yW Tryz.prog pu pl) c1 (HX.then (fun fr1 PS1=>jc 0 n (fun PSb=>
    hvc (hop Tryz.prog) (yW Tryz.prog pu pl) c2 (fun x _ PS2=>ui n 0 (fun v PS3=>(v=.bool true∧R (i+1) PS3∧zA PS3 n=.rnd 0 .ready none lf ps.toList d1 d2 0)∨(v=.bool false∧gG n fr Q PS3 (zA PS3 n))) x PS2 (zA PS2 n)) fr1 PSb) PS1 (zA PS1 n)) (fun _ _ _=>False))
    (ju ps.toList [.int .i64 ((hand+i) % m:Nat)] fr) PS')
  (fin:∀PS' q,R (2*m) PS'→zA PS' n=.rnd 0 .ready none fr ps.toList c1 c2 0→Q .normal fr (PS'.set n q)):
  hrf Tryz.prog 0 fr PS ps c1 c2 Q (some (242,[],[.ptr pm 0 0 0,.ptr pf 0 0 0])):=by
 subst hn
 refine⟨by kernel_rfl,?_⟩
 refine zNt (fun i PS'=>R i PS'∧zA PS' PS.length=.rnd 0 .ready none fr ps.toList c1 c2 0) PS.length pm pf m hand h0 h1 (fun i PS h=>hm i PS h.1) (fun i PS h=>hf i PS h.1) ⟨hR _,zt _ _⟩ (fun i PS' hi ⟨h2,hg⟩=>?_) (fun PS' ⟨h2,hg⟩=>?_)
 ·exact zNk Wz tb hg hl.symm p1 p2 p3 p4 (step i PS' _ _ _ hi h2 hg)
 ·rw[hg];exact⟨rfl,fin _ _ h2 hg⟩
theorem zQk (PS:PL) (hand m:Nat) (h0:hand<m) (h1:m≤64):zI Tryz.prog 170 [.int .i64 hand,.int .i64 m] PS fun r PS'=>r=.int .i64 hand∧PS'=PS:=by
 refine zI.data (.int .i64 _) ?_
 refine zP5 (by unfold Tryz.f170;exact rfl) ?_
 simp only[go_sem,seval, -List.reduceReplicate]
 have e1:(hand:Int).tmod (m:Int)=hand:=by rw[Int.tmod_eq_emod_of_nonneg (by omega)];exact Int.emod_eq_of_lt (by omega) (by omega)
 have e2:((hand:Int)+m).tmod (m:Int)=hand:=by rw[Int.tmod_eq_emod_of_nonneg (by omega),Int.add_emod_right];exact Int.emod_eq_of_lt (by omega) (by omega)
 rw[e1,e2]
 exact⟨by omega,⟨by omega,by omega⟩,by omega,rfl,Ext.refl _⟩
theorem zRP (PS:PL) (hand m:Nat):zI Tryz.prog 172 [.int .i64 hand,.int .i64 m] PS fun r PS'=>r=.func (.func 242) [] [.ptr (PS.length+1) 0 0 0,.ptr PS.length 0 0 0]∧PS'=PS++[.arr 0 1 [[.int .i64 hand]] false]++[.arr 0 1 [[.int .i64 m]] false]:=by
 refine zOs (by unfold Tryz.f172;exact rfl) ?_
 simp only[go_sem,seval, -List.reduceReplicate]
theorem ym.one {PS:PL} {n:Nat} {x:HV} {rows:List (List HV)} (h:ym PS n x rows):HV.one x=true:=by
 rcases h.1 with ⟨t,rfl⟩ | ⟨q,ver,pre,sp,o,cp,rfl,_⟩<;>rfl
theorem zQi {PS:PL} {x:HV} {l:List Bool} (h:ym PS 1 x (l.map bL)) (hl:l.length≤64):zI Tryz.prog 171 [x] PS fun r PS'=>r=.sl PS.length 0 0 l.length none∧PS'=PS++[.arr 0 1 (l.map bL) true]:=by
 rcases h.1 with ⟨t,rfl⟩ | ⟨q,ver,pre,sp,o,cp,rfl,hg,ho⟩
 ·have:=zKQ PS t (l.map bL) h.2 (by simp[zr];omega)
  rw[List.length_map] at this
  exact this
 ·have:=zNq PS q ver pre.length (l.map bL).length cp 1 _ o hg (.inr rfl) (by simp) (by simp[zr];omega)
  have e:((pre++(l.map bL++sp)).drop pre.length).take (l.map bL).length=l.map bL:=by simp
  rw[e,List.length_map] at this
  rw[List.length_map]
  exact this
def swR (m hand:Nat) (s:Option Nat×List Bool):HV:=
 match s.1 with
 | some k=>.tup [.int .i64 k,.int .i64 ((k+1) % m:Nat),.imm false (s.2.map bL)]
 | none=>.tup [.int .i64 (-1),.int .i64 hand,.imm false (s.2.map bL)]
theorem zKD (m hand n:Nat) (s:Option Nat×List Bool):zc n (swR m hand s):=by
 have:zc n (.imm false (s.2.map bL)):=by
  refine xe.2 fun l hl y hy=>?_
  obtain⟨b,_,rfl⟩:=List.mem_map.1 hl
  simp[bL] at hy;subst hy;exact .bool _
 unfold swR
 cases s.1 with
 | none=>
  refine jn.2 fun x hx=>?_
  simp only[List.mem_cons,List.not_mem_nil,or_false] at hx
  rcases hx with rfl | rfl | rfl<;>first | exact .int _ _ | exact this
 | some k=>
  refine jn.2 fun x hx=>?_
  simp only[List.mem_cons,List.not_mem_nil,or_false] at hx
  rcases hx with rfl | rfl | rfl<;>first | exact .int _ _ | exact this
/-- Between two rounds. -/
structure ZF (PS:PL) (x:HV) (can:List Bool) (hand:Nat) (PS':PL) (L:List Bool):Prop where
 len:L.length=can.length
 ext:Ext [] PS PS'
 lt:PS'.length=PS.length+9
 gx:zA PS' PS.length=.arr 0 1 [[x]] false
 gp:zA PS' (PS.length+1)=.arr 0 1 [[.int .i64 0]] false
 gn:zA PS' (PS.length+2)=.arr 0 1 [[.int .i64 0]] false
 gl:zA PS' (PS.length+3)=.arr 0 1 [[.sl (PS.length+5) 0 0 can.length none]] false
 gm:zA PS' (PS.length+4)=.arr 0 1 [[.int .i64 can.length]] false
 gL:zA PS' (PS.length+5)=.arr 0 1 (L.map bL) true
 gf:zA PS' (PS.length+6)=.arr 0 1 [[.int .i64 hand]] false
 gm2:zA PS' (PS.length+6+1)=.arr 0 1 [[.int .i64 can.length]] false
theorem ZF.rnd {PS:PL} {x:HV} {can:List Bool} {hand:Nat} {PS':PL} {L:List Bool} (h:ZF PS x can hand PS' L) (q:zC):ZF PS x can hand (PS'.set (PS.length+8) q) L:=
 have hne:∀k,k<PS.length+8→zA (PS'.set (PS.length+8) q) k=zA PS' k:=fun k hk=>zO _ (by omega)
 { h with
  ext:=⟨by simpa using h.ext.1,fun n hn hm=>(hne n (by omega)).trans (h.ext.2 n hn hm)⟩
  lt:=by simpa using h.lt
  gx:=(hne _ (by omega)).trans h.gx
  gp:=(hne _ (by omega)).trans h.gp
  gn:=(hne _ (by omega)).trans h.gn
  gl:=(hne _ (by omega)).trans h.gl
  gm:=(hne _ (by omega)).trans h.gm
  gL:=(hne _ (by omega)).trans h.gL
  gf:=(hne _ (by omega)).trans h.gf
  gm2:=(hne _ (by omega)).trans h.gm2}
theorem ZF.row {PS:PL} {x:HV} {can:List Bool} {hand:Nat} {PS':PL} {L L':List Bool} (h:ZF PS x can hand PS' L) (hl:L'.length=L.length):ZF PS x can hand (PS'.set (PS.length+5) (.arr 0 1 (L'.map bL) true)) L':=
  have hne:∀k,k≠PS.length+5→zA (PS'.set (PS.length+5) (.arr 0 1 (L'.map bL) true)) k=zA PS' k:=fun k hk=>zO _ (fun e=>hk e.symm)
  { len:=hl.trans h.len
    ext:=⟨by simpa using h.ext.1,fun n hn hm=>(hne n (by omega)).trans (h.ext.2 n hn hm)⟩
    lt:=by simpa using h.lt
    gx:=(hne _ (by omega)).trans h.gx
    gp:=(hne _ (by omega)).trans h.gp
    gn:=(hne _ (by omega)).trans h.gn
    gl:=(hne _ (by omega)).trans h.gl
    gm:=(hne _ (by omega)).trans h.gm
    gL:=Yh _ (by have:=h.lt;omega)
    gf:=(hne _ (by omega)).trans h.gf
    gm2:=(hne _ (by omega)).trans h.gm2}
def SwR (PS:PL) (x:HV) (can ref:List Bool) (hand i:Nat) (PS':PL):Prop:=∃L,ZF PS x can hand PS' L∧jT can hand (2*can.length - i) L=jT can hand (2*can.length) ref
theorem Ext.out {PS PS1:PL} (h:Ext [] PS PS1) {n:Nat} (q:zC) (hn:PS.length≤n):Ext [] PS (PS1.set n q):=
 h.since (Ext.set _ n q) fun m hm=>by simp at hm;subst hm;exact .inr hn
theorem zCI {PS PS1:PL} {L:List Bool} {m:Nat} {a b:Int} {res:HV} (hl:L.length=m) (hr: .tup [.int .i64 a,.int .i64 b,.imm false (L.map bL)]=res) (hg:zA PS1 (PS.length+5)=.arr 0 1 (L.map bL) true) (he:Ext [] PS PS1):
  ∃n ver sz E opn r' PS2,zA PS1 n=.arr ver sz E opn∧qG n ver E (.tup [.int .i64 a,.int .i64 b,.sl (PS.length+5) 0 0 m none]) r'∧wD n ver E PS1 PS2∧r'=res∧Ext [] PS PS2:=by
 have e:((L.map bL).drop 0).take m=L.map bL:=by rw[List.drop_zero];exact List.take_of_length_le (by simp[hl])
 refine⟨_,_,_,_,_,_,PS1.set (PS.length+5) .dead,hg,uw.tup (.cons (.same _) (.cons (.same _) (.cons (.sl 0 m none (by simp[hl])) (.nil _ _ _)))),wD.only (yB hg),by rw[e];exact hr,Ext.out he _ (by omega)⟩
theorem zII (PS:PL) (x y:HV) (can ref:List Bool) (hand:Nat) (hx:ym PS 1 x (can.map bL)) (hy:ym PS 1 y (ref.map bL)) (hl:ref.length=can.length) (h0:hand<can.length) (h1:can.length≤64):
  zI Tryz.prog 98 [x,y,.int .i64 hand] PS fun r PS'=>r=(match (jT can hand (2*can.length) ref).1 with
   | some k=>.tup [.int .i64 k,.int .i64 ((k+1) % can.length:Nat),.imm false ((jT can hand (2*can.length) ref).2.map bL)]
   | none=>.tup [.int .i64 (-1),.int .i64 hand,.imm false ((jT can hand (2*can.length) ref).2.map bL)])∧PS'=PS:=by
 show zI Tryz.prog 98 [x,y,.int .i64 hand] PS fun r PS'=>r=swR can.length hand (jT can hand (2*can.length) ref)∧PS'=PS
 refine zI.data (zKD _ _ _ _) (zI.frz ?_)
 refine zGo (by unfold Tryz.f98;exact rfl) ?_
 have mx:maxLen=9223372036854775807:=rfl
 have hn0:¬((can.length:Int)=0):=by omega
 simp only[go_sem,seval, -List.reduceReplicate,ym.len (ym.app hx _),ym.len (ym.app hy _),List.length_map,zI7 (ym.one hx),hl,hn0,List.append_assoc,List.cons_append,List.nil_append]
 intro _ _
 refine zG ((zQk _ hand can.length h0 h1).mono ?_)
 rintro _ PS1 ⟨rfl,rfl⟩
 simp only[go_sem,seval, -List.reduceReplicate]
 refine zG ((zQi (ym.app hy _) (by omega)).mono ?_)
 rintro _ PS1 ⟨rfl,rfl⟩
 simp only[go_sem,seval, -List.reduceReplicate,hl,List.append_assoc,List.cons_append,List.nil_append]
 refine zG ((zRP _ hand can.length).mono ?_)
 rintro _ PS1 ⟨rfl,rfl⟩
 simp only[go_sem,seval, -List.reduceReplicate,hl,List.append_assoc,List.cons_append,List.nil_append]
 refine zG ?_
 simp only[go_sem,seval, -List.reduceReplicate]
 refine zIJ (pl:=Zs) JT (SwR PS x can ref hand) (PS.length+6+1) (PS.length+6) can.length hand (PS.length+8) (by simp) h0 h1 rfl (by kernel_rfl) (by kernel_rfl) (by kernel_rfl) (by kernel_rfl) (fun i PS' h=>?_) (fun i PS' h=>?_) (fun q=>?_) (fun i PS' lf d1 d2 hi h hg=>?_) (fun PS' q h hg=>?_)
 ·obtain⟨L,h,_⟩:=h;exact h.gm2
 ·obtain⟨L,h,_⟩:=h;exact h.gf
 ·refine⟨ref,{len:=hl,ext:=?_,lt:=by simp,gx:=?_,gp:=?_,gn:=?_,gl:=?_,gm:=?_,gL:=?_,gf:=?_,gm2:=?_},rfl⟩
  ·rw[List.append_assoc];exact Ext.app _ _
  all_goals simp[zA,Nat.add_assoc]
 ·obtain⟨L,h,hs⟩:=h
  have hx2:=fun q=>ym.pre hx (h.rnd q).ext.pre
  have hlt:(hand+i) % can.length<can.length:=Nat.mod_lt _ (by omega)
  generalize hk:(hand+i) % can.length=k at hlt
  have hck:(can.map bL)[k]? =some [.bool can[k]]:=by simp[hlt,bL]
  have hLk:(L.map bL)[k]? =some [.bool (L.getD k false)]:=by have:=h.len;simp[List.getD,show k<L.length by omega,bL]
  have e2:2*can.length - i=(2*can.length - (i+1))+1:=by omega
  rw[e2] at hs
  have hk2:(hand+(2*can.length - (2*can.length - (i+1)+1))) % can.length=k:=by rw[←hk];congr 2;omega
  simp only[jT,hk2] at hs
  have hcd:can.getD k false=can[k]:=by simp[List.getD,hlt]
  rw[hcd] at hs
  have hself:∀q,zA (PS'.set (PS.length+8) q) (PS.length+8)=q:=fun q=>Yh q (by have:=h.lt;omega)
  have hset:∀q r,(PS'.set (PS.length+8) q).set (PS.length+8) r=PS'.set (PS.length+8) r:=fun q r=>List.set_set ..
  cases hb:can[k] with
  | false=>
   rw[hb] at hs hck
   simp only[go_sem,seval, -List.reduceReplicate,hg,hself,hset,(h.rnd _).gx,(h.rnd _).gl,(h.rnd _).gL,(hx2 _).ix hck,(hx2 _).ld hck]
   exact .inl ⟨L,h.rnd _,by simpa using hs⟩
  | true=>
   rw[hb] at hs hck
   cases hb2:L.getD k false with
   | true=>
    rw[hb2] at hs hLk
    have zd:(L.map bL).set k [.bool false]=(L.set k false).map bL:=by rw[List.map_set];rfl
    have hs5:∀q r,zA ((PS'.set (PS.length+8) q).set (PS.length+5) r) (PS.length+8)=q:=fun q r=>(zO _ (by omega)).trans (hself q)
    have h7:=fun q=>((h.rnd q).row (L':=L.set k false) (by simp))
    have hs7:∀q r t,zA (((PS'.set (PS.length+8) q).set (PS.length+5) r).set (PS.length+8) t) (PS.length+8)=t:=fun q r t=>Yh t (by have:=h.lt;simp only[List.length_set];omega)
    simp only[go_sem,seval, -List.reduceReplicate,hg,hself,hset,hs5,hs7,zd,(h.rnd _).gx,(h.rnd _).gl,(h.rnd _).gL,(hx2 _).ix hck,(hx2 _).ld hck,hLk,List.length_map,h.len]
    exact⟨hlt,hlt,.inl ⟨L.set k false,(h7 _).rnd _,by simpa using hs⟩⟩
   | false=>
    rw[hb2] at hs hLk
    have e3:((k:Int)+1).tmod (can.length:Int)=((k+1) % can.length:Nat):=by
     rw[Int.tmod_eq_emod_of_nonneg (by omega)];simp
    simp only[go_sem,seval, -List.reduceReplicate,hg,hself,hset,(h.rnd _).gx,(h.rnd _).gl,(h.rnd _).gL,(h.rnd _).gm,(h.rnd _).gp,(h.rnd _).gn,(hx2 _).ix hck,(hx2 _).ld hck,hLk,e3,zO,Yh,List.length_set,h.lt,ne_eq,Nat.add_left_cancel_iff,Nat.reduceEqDiff,not_false_eq_true,Nat.add_lt_add_iff_left]
    refine⟨hlt,⟨by omega,by omega⟩,by omega,.inr (zCI (L:=L) h.len ?_ ?_ ?_)⟩
    ·rw[←hs];rfl
    ·rw[zO _ (by omega),zO _ (by omega),zO _ (by omega),zO _ (by omega),zO _ (by omega),zO _ (by omega)]
     exact h.gL
    ·exact Ext.out (Ext.out (Ext.out (Ext.out (Ext.out (Ext.out h.ext _ (by omega)) _ (by omega)) _ (by omega)) _ (by omega)) _ (by omega)) _ (by omega)
 ·obtain⟨L,h,hs⟩:=h
  simp only[go_sem,seval, -List.reduceReplicate,(h.rnd _).gp,(h.rnd _).gn,(h.rnd _).gl,zO,Yh,List.length_set,h.lt,ne_eq,Nat.add_left_cancel_iff,Nat.reduceEqDiff,not_false_eq_true,Nat.add_lt_add_iff_left]
  refine zCI (L:=L) h.len ?_ ?_ ?_
  ·rw[←hs,Nat.sub_self];rfl
  ·rw[zO _ (by omega),zO _ (by omega),zO _ (by omega),zO _ (by omega)]
   exact h.gL
  ·exact Ext.out (Ext.out (Ext.out (Ext.out h.ext _ (by omega)) _ (by omega)) _ (by omega)) _ (by omega)
end Go.Proofs.YtbmibhjjogobhaaGreat
namespace Go.Proofs.YtbmibhjjogobhaaGreat
open Go Go.Eng Go.Ow
open Go.Mo
set_option maxRecDepth 100000
theorem zN8 [zB]:yg Tryz.prog 98 yu:=by
 intro a r h
 unfold yu at h
 split at h
 ·rename_i t X t' Y hd
  simp only[zZ,yT,zS,Bool.and_eq_true,zX,vM,yk,wk] at h
  obtain⟨x,hx,y,hy,⟨⟨h1,h2⟩,h3⟩,h4⟩:=h
  have hX:=QU _ _ hx
  have hY:=QU _ _ hy
  subst hX
  subst hY
  have key:∀(m:Nat) (l:List Bool),swp x hd x.length m l=jT x hd m l:=by
   intro m
   induction m with
   | zero=>intro l;rfl
   | succ m ih=>
    intro l
    show (fN (Nat.mod (Nat.add hd (Nat.sub (Nat.mul 2 x.length) (Nat.succ m))) x.length) fun k=>bif x.getD k false then (bif l.getD k false then fLB (l.set k false) fun l=>swp x hd x.length m l else (some k,l)) else swp x hd x.length m l)=_
    rw[yT,zBc,ih,ih,jT]
    show _=if x.getD ((hd+(2*x.length - (m+1))) % x.length) false=true then _ else _
    have e:Nat.mod (Nat.add hd (Nat.sub (Nat.mul 2 x.length) (Nat.succ m))) x.length=(hd+(2*x.length - (m+1))) % x.length:=rfl
    rw[e]
    generalize (hd+(2*x.length - (m+1))) % x.length=k
    cases x.getD k false<;>cases l.getD k false<;>rfl
  rw[key] at h4
  have hsw:=fun PS=>zII PS (.imm t (x.map fun b=>[.bool b])) (.imm t' (y.map fun b=>[.bool b])) x y hd (ym.imm PS t (by intro r hr;obtain⟨b,_,rfl⟩:=List.mem_map.1 hr;rfl)) (ym.imm PS t' (by intro r hr;obtain⟨b,_,rfl⟩:=List.mem_map.1 hr;rfl)) h1 h2 h3
  have e2:Nat.mul 2 x.length=2*x.length:=rfl
  rw[e2] at h4
  intro PS
  refine(hsw PS).mono ?_
  rintro q PS' ⟨rfl,rfl⟩
  refine⟨?_,rfl⟩
  generalize jT x hd (2*x.length) y=sw at h4 ⊢
  obtain⟨o,L⟩:=sw
  cases o with
  | none=>
   simp only[KY] at h4
   cases h4;rfl
  | some k=>
   simp only[KY] at h4
   cases h4;rfl
 ·cases h
end Go.Proofs.YtbmibhjjogobhaaGreat
