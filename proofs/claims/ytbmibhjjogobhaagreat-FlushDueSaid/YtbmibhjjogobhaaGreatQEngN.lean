/-
Copy, clear, strings as bytes, calls: and all operations as one abstract meaning that holds of the model.
No conditions.
-/
import Derived.Test.YtbmibhjjogobhaaGreatQEngL
import Derived.MapKept
set_option linter.unusedSectionVars false
set_option linter.unusedSimpArgs false
set_option linter.unusedVariables false
namespace Go.Eng
open Go
variable [zB]
/-- Rows,or cells of a row,that are written. -/
def wq (PS:PL) (s:Nat) (x:HV) (N:Nat→List (List HV)) (K:PL→Prop):Prop:=
 match x with
 | .sl n ver i len _=>(match zA PS n with
  | .arr ver' sz E opn=>ver=ver'∧sz=s∧(opn=false∨E≠[])∧i+len≤E.length∧K (PS.set n (.arr ver s (zP i (N len) E) opn))
  | _=>False)
 | .isl n ver i k len _=>s=1∧(match zA PS n with
  | .arr ver' sz E opn=>ver=ver'∧∃l,E[i]? =some l∧k+len≤l.length∧K (PS.set n (.arr ver sz (E.set i (zP k (N len).flatten l)) opn))
  | _=>False)
 | _=>False
def vX:HV→Nat
 | .sl _ _ _ len _=>len
 | .isl _ _ _ _ len _=>len
 | _=>0
def kT (P:Program) (PS:PL) (t:TypeId) (x y:HV) (K:HV→PL→Prop):Prop:=
 match qO P t with
 | some (_,s)=>yA PS s y fun N=>wq PS s x (fun len=>N.take len) fun PS'=>K (.int .i64 ((min N.length (vX x):Nat):Int)) PS'
 | none=>False
def kR (P:Program) (PS:PL) (t:TypeId) (x:HV) (K:HV→PL→Prop):Prop:=
 match yV P t with
 | some (s,_,z)=>wq PS s x (fun len=>List.replicate len z) fun PS'=>K (.tup []) PS'
 | none=>False
def ZG (P:Program) (src dst:TypeId) (l:List UInt8) (K:HV→Prop):Prop:=
 match P.underlying dst with
 | some (.slice e)=>P.underlying src=some .string∧P.underlying e=some (.int .u8)∧l.length≤140737488355328∧K (.imm false (zD l))
 | _=>False
def zQ (P:Program) (g:FuncId):Bool:=
 match P.funcs[g]? with
 | some fn=>fn.name != "runtime.NumGoroutine" &&fn.body.isSome
 | none=>false
def wu:HV→Option (FuncId×List HV×List HV)
 | .cst (.func (.func g) ⟨[]⟩ ⟨[]⟩)=>some (g,[],[])
 | .func (.func g) f c=>some (g,f,c)
 | _=>none
def uh (P:Program) (args:List HV) (PS:PL) (K:HV→PL→Prop):Option (FuncId×List HV×List HV)→Prop
 | some (g,f,c)=>zQ P g=true∧zI P g (f++(args++c)) PS K
 | none=>False
def vS (mx:Bool) (K:HV→Prop):List HV→Prop
 | [.int k a,.int k' b]=>k=k'∧K (.int k (if mx then (if b>a then b else a) else (if b<a then b else a)))
 | _=>False
section
variable {P:Program} {ds:List Deferred} {F:Nat→Prop} {e e0:List Pos} {D D0:Nat→Nat→Prop} {PS PS':PL} {w w0 w':World} {fr:Fr} {a:Act} {o:Oper} {K:HV→PL→Prop} {Q:Exit→Act→World→Prop} {M:Nat→Prop}
theorem zO7 {s:Nat} {N:List (List HV)} {vs:List Value} (h:RowsIn M e w s N vs):RowsIn M e w N.flatten.length [N.flatten] vs:=by
 have hlen:N.flatten.length=N.length*s:=by
  have:∀N:List (List HV),(∀r∈N,r.length=s)→N.flatten.length=N.length*s:=by
   intro N
   induction N with
   | nil=>intro _;simp
   | cons r N ih=>intro hN;simp only[List.flatten_cons,List.length_append,List.length_cons];rw[ih (fun r hr=>hN r (by simp[hr])),hN r (by simp),Nat.add_mul];omega
  exact this N h.sz
 refine .single rfl (by rw[h.len,hlen]) h.one (fun k y v hk hv=>?_)
 -- by rows
 have:∀(N:List (List HV)) (vs:List Value),RowsIn M e w s N vs→∀(k:Nat) (y:HV) (v:Value),N.flatten[k]? =some y→vs[k]? =some v→zH M e w y v:=by
  intro N
  induction N with
  | nil=>intro vs _ k y v hk;simp at hk
  | cons r N ih=>
   intro vs h k y v hk hv
   have hr:=h.sz r (by simp)
   rw[List.flatten_cons] at hk
   by_cases hlt:k<r.length
   ·rw[List.getElem?_append_left hlt] at hk
    obtain⟨v',h1,h2⟩:=h.rel 0 r k y rfl hk
    simp only[Nat.zero_mul,Nat.zero_add] at h1
    rw[h1] at hv;cases hv;exact h2
   ·rw[List.getElem?_append_right (by omega)] at hk
    have hd:=h.drop 1
    simp only[List.drop_succ_cons,List.drop_zero,Nat.one_mul] at hd
    refine ih (vs.drop s) hd (k - r.length) y v hk ?_
    rw[List.getElem?_drop,←hv,hr];congr 1;omega
 exact this N vs h k y v hk hv
theorem zC7 (hr:Rel F e D PS w) {s:Nat} {x:HV} {u:Value} {N:Nat→List (List HV)} {vs:Nat→List Value} {K:PL→Prop} (hx:zH (Mut F D) e w x u) (hN:∀len,RowsIn (Mut F D) e w s (N len) (vs len)) (hl:∀len,(N len).length≤len)
  (hc:wq PS s x N K):∃(ad:Option Addr) (c:Nat) (PS':PL) (e':List Pos) (w':World),u=.slice ad (vX x) c∧(∀P:Program,∀a,ad=some a→(storeCells a (vs (vX x))).run P w=.ok () w')∧(ad=none→w'=w∧vX x=0)∧
   Rel F e' D PS' w'∧Tr e D w e' D w'∧K PS':=by
 cases x with
 | sl n ver i len cp=>
  simp only[wq] at hc
  cases hq:zA PS n with
  | arr ver' sz E opn=>?_
  | dead=>rw[hq] at hc;exact hc.elim
  | map _ _ _ _=>rw[hq] at hc;exact hc.elim
  | mapT _ _ _ _=>rw[hq] at hc;exact hc.elim
  | iter _ _ _ _ _=>rw[hq] at hc;exact hc.elim
  | rnd _ _ _ _ _ _ _ _=>rw[hq] at hc;exact hc.elim
  rw[hq] at hc
  obtain⟨rfl,rfl,hE,hle,hK⟩:=hc
  obtain⟨p,b,o,cap,e',hp,hpv,hkd,hp',w',hrun,hrel,htr⟩:=hr.Kb hq hE (j:=i) (hN len) (by have:=hl len;omega)
  cases hx with
  | sl n ver i len cp u p0 hp0 hv'' hs h1=>
   rw[hp] at hp0;cases hp0
   have hsl:=hs hpv.symm
   rw[hkd] at hsl
   obtain⟨ad,c,rfl,hlc,hcm,hn0,ha,hcc⟩:=hsl
   have hz:len=0→w'=w:=by
    intro h0
    have hv:vs len=[]:=List.eq_nil_of_length_eq_zero (by rw[(hN len).len];have:=hl len;rw[show (N len).length=0 from by omega];simp)
    have:=hrun default _ rfl
    rw[hv,jX] at this
    injection this with _ h;exact h.symm
   refine⟨ad,c,_,e',w',rfl,fun P a had=>?_,fun hh=>?_,hrel,htr,hK⟩
   ·by_cases h0:0<c
    ·rw[ha h0] at had;cases had
     exact hrun P _ (by omega)
    ·have hl0:len=0:=by omega
     rw[hz hl0]
     have hv:vs len=[]:=List.eq_nil_of_length_eq_zero (by rw[(hN len).len];have:=hl len;rw[show (N len).length=0 from by omega];simp)
     simp only[vX,hv]
     exact jX a
   ·have:=hn0 hh
    have hl0:len=0:=by omega
    exact⟨hz hl0,hl0⟩
 | isl n ver i k len cp=>
  obtain⟨rfl,hc⟩:=hc
  cases hq:zA PS n with
  | arr ver' sz E opn=>?_
  | dead=>rw[hq] at hc;exact hc.elim
  | map _ _ _ _=>rw[hq] at hc;exact hc.elim
  | mapT _ _ _ _=>rw[hq] at hc;exact hc.elim
  | iter _ _ _ _ _=>rw[hq] at hc;exact hc.elim
  | rnd _ _ _ _ _ _ _ _=>rw[hq] at hc;exact hc.elim
  rw[hq] at hc
  obtain⟨rfl,l,hil,hle,hK⟩:=hc
  have hfl:=zO7 (hN len)
  have hfll:(N len).flatten.length≤len:=by
   have h1:(vs len).length=(N len).flatten.length:=by simpa only[List.length_singleton,Nat.one_mul] using hfl.len
   have h2:=(hN len).len
   have:=hl len
   omega
  obtain⟨p,b,o,cap,e',hp,hpv,hkd,w',hrun,hrel,htr⟩:=hr.zFY (k:=k) hq hil (c:=(N len).flatten) (by omega) hfl
  cases hx with
  | isl n ver i k len cp u p0 hp0 hv'' hs h1=>
   rw[hp] at hp0;cases hp0
   have hsl:=hs hpv.symm
   rw[hkd] at hsl
   obtain⟨ad,c,rfl,hlc,hcm,hn0,ha,hcc⟩:=hsl
   have hz:len=0→w'=w:=by
    intro h0
    have hv:vs len=[]:=List.eq_nil_of_length_eq_zero (by have h1:=(hN len).len;have h2:=hl len;omega)
    have:=hrun default
    rw[hv,jX] at this
    injection this with _ h;exact h.symm
   refine⟨ad,c,_,e',w',rfl,fun P a had=>?_,fun hh=>?_,hrel,htr,hK⟩
   ·by_cases h0:0<c
    ·rw[ha h0] at had;cases had
     exact hrun P
    ·have hl0:len=0:=by omega
     rw[hz hl0]
     have hv:vs len=[]:=List.eq_nil_of_length_eq_zero (by have h1:=(hN len).len;have h2:=hl len;omega)
     simp only[vX,hv]
     exact jX a
   ·have:=hn0 hh
    have hl0:len=0:=by omega
    exact⟨hz hl0,hl0⟩
 | _=>exact hc.elim
theorem zPI {t:TypeId} {el:TypeId} {s:Nat} (h:qO P t=some (el,s)):∃i,P.underlying t=some (.slice el)∧P.info? el=some i∧i.size=s:=by
 unfold qO at h
 cases hu:P.underlying t with
 | none=>rw[hu] at h;cases h
 | some d=>
  cases d with
  | slice e'=>
   rw[hu] at h
   cases hi:P.info? e' with
   | none=>simp only[hi] at h;cases h
   | some i=>simp only[hi,Option.some.injEq,Prod.mk.injEq] at h;obtain⟨rfl,rfl⟩:=h;exact⟨i,rfl,hi,rfl⟩
  | _=>rw[hu] at h;cases h
theorem zKj {t t2 ty:TypeId} {x y:HV} {u v:Value} (hr:Rel F e D PS w) (hx:zH (Mut F D) e w x u) (hy:zH (Mut F D) e w y v) (hc:kT P PS t x y K):
  ∃z r PS' e' D' w',(Builtin.copy_ #[t,t2] ty #[u,v]).run P w=.ok r w'∧Rel F e' D' PS' w'∧Tr e D w e' D' w'∧zH (Mut F D') e' w' z r∧K z PS':=by
 unfold kT at hc
 cases hm:qO P t with
 | none=>rw[hm] at hc;exact hc.elim
 | some q=>
  obtain⟨el,s⟩:=q
  rw[hm] at hc
  obtain⟨i,hu,hi,rfl⟩:=zPI hm
  obtain⟨N,vs,hc,yA⟩:=Qn (P:=P) hr hy hc
  obtain⟨ad,c,PS',e',w',rfl,hst,hnone,hrel,htr,hK⟩:=zC7 hr hx (vs:=fun len=>vs.take (min N.length len*i.size)) (fun len=>by
   have:=yA.rows.take (min N.length len) (Nat.min_le_left _ _)
   rwa [show N.take (min N.length len)=N.take len from by
    rcases Nat.le_total len N.length with h | h
    ·rw[Nat.min_eq_right h]
    ·rw[Nat.min_eq_left h,List.take_length,List.take_of_length_le h]] at this) (fun len=>by simp;omega) hc
  refine⟨_,.int .i64 ((min N.length (vX x):Nat):Int),PS',e',D,w',?_,hrel,htr,.int _ _,hK⟩
  have hf:=yA.first w (min N.length (vX x)) rfl (Nat.min_le_left _ _)
  cases ad with
  | none=>
   obtain⟨rfl,h0⟩:=hnone rfl
   simp[Builtin.copy_,run_underlying hu,qC hi,yA.len,Nat.min_def,goInt] at hf ⊢
   simp[hf]
  | some a=>
   have hst':=hst P a rfl
   simp only[Builtin.copy_,List.getElem?_toArray,List.getElem?_cons_zero,List.getElem?_cons_succ,Sem.run_bind,run_underlying hu,Result.andThen_ok,yA.len,qC hi]
   rw[show Nat.min N.length (vX x)=min N.length (vX x) from rfl,hf]
   simp[hst',goInt]
end
end Go.Eng
namespace Go.Eng
open Go Go.MapKept
variable [zB]
abbrev qf:=List (Nat×Int×HV)
def vR (x:Int):qf→Option HV
 | []=>none
 | e::E=>if e.2.1=x then some e.2.2 else vR x E
def jb (x:Int) (v:HV) (clock:Nat):qf→qf
 | []=>[(clock,x,v)]
 | e::E=>if e.2.1=x then (e.1,x,v)::E else e::jb x v clock E
def kV (x:Int):qf→qf
 | []=>[]
 | e::E=>if e.2.1=x then E else e::kV x E
/-- A zero value. -/
def zv:Value→HV
 | .agg cs=>.agg (cs.toList.map ofV)
 | v=>ofV v
def qA (P:Program) (t:TypeId):Option (IntKind×HV):=
 match P.underlying t with
 | some (.map kt et)=>(match P.underlying kt with | some (.int q)=>((P.info? et).bind (·.zero)).map fun z=>(q,zv z) | _=>none)
 | _=>none
def Yv (P:Program) (t:TypeId):Option IntKind:=
 match P.underlying t with
 | some (.map kt _)=>(match P.underlying kt with | some (.int k)=>some k | _=>none)
 | _=>none
def qT (q:zC) (C:Nat→Nat→IntKind→qf→Prop):Prop:=
 match q with
 | .map ver clock k E=>C ver clock k E
 | _=>False
abbrev jG:=List (Nat×Nat×HV)
def vr (i:Nat):jG→Option HV
 | []=>none
 | e::E=>if e.2.1=i then some e.2.2 else vr i E
def kS (i:Nat) (v:HV) (clock:Nat):jG→jG
 | []=>[(clock,i,v)]
 | e::E=>if e.2.1=i then (e.1,i,v)::E else e::kS i v clock E
/-- Whether a name is among the keys is told. -/
def Yl (i:Nat) (E:jG):Prop:=∀e∈E,e.2.1=i∨zB.num e.2.1≠zB.num i
theorem GS {i:Nat}:∀{E:jG},Yl i E→vR (zB.num i) (wo E)=vr i E
 | [],_=>rfl
 | e::E,h=>by
  have ih:=GS (i:=i) (E:=E) fun x hx=>h x (by simp[hx])
  show (if zB.num e.2.1=zB.num i then some e.2.2 else vR (zB.num i) (wo E))=(if e.2.1=i then some e.2.2 else vr i E)
  rw[ih]
  by_cases h1:e.2.1=i
  ·rw[if_pos h1,if_pos (by rw[h1])]
  ·rw[if_neg h1,if_neg ((h e (by simp)).resolve_left h1)]
theorem zBV {i:Nat} {v:HV} {clock:Nat}:∀{E:jG},Yl i E→jb (zB.num i) v clock (wo E)=wo (kS i v clock E)
 | [],_=>rfl
 | e::E,h=>by
  have ih:=zBV (i:=i) (v:=v) (clock:=clock) (E:=E) fun x hx=>h x (by simp[hx])
  show (if zB.num e.2.1=zB.num i then (e.1,zB.num i,v)::wo E else (e.1,zB.num e.2.1,e.2.2)::jb (zB.num i) v clock (wo E))=wo (if e.2.1=i then (e.1,i,v)::E else e::kS i v clock E)
  rw[ih]
  by_cases h1:e.2.1=i
  ·rw[if_pos h1,if_pos (by rw[h1])];rfl
  ·rw[if_neg h1,if_neg ((h e (by simp)).resolve_left h1)];rfl
def jD (q:zC) (C:Nat→Nat→IntKind→jG→Prop):Prop:=
 match q with
 | .map ver clock k []=>C ver clock k []
 | .mapT ver clock k E=>C ver clock k E
 | _=>False
def ZJ (q:zC) (C:Nat→HV→Nat→List Nat→Nat→Prop):Prop:=
 match q with
 | .iter ver x since seen last=>C ver x since seen last
 | _=>False
def ZZ (PS:PL) (K:HV→PL→Prop):Option IntKind→Prop
 | some k=>K (.ref PS.length 0) (PS++[.map 0 0 k []])
 | none=>False
def wZ (PS:PL) (m ix:HV) (ok:Bool) (K:HV→Prop):Option (IntKind×HV)→Prop
 | some (q,z)=>(match m,ix with
  | .ref n ver,.int k x=>qT (zA PS n) fun ver' _ k' E=>ver=ver'∧k=k'∧k=q∧K (if ok then .tup [(vR x E).getD z,.bool (vR x E).isSome] else (vR x E).getD z)
  | .ref n ver,.tok k x=>jD (zA PS n) fun ver' _ k' E=>ver=ver'∧k=k'∧k=q∧Yl x E∧K (if ok then .tup [(vr x E).getD z,.bool (vr x E).isSome] else (vr x E).getD z)
  | _,_=>False)
 | none=>False
def uj (PS:PL) (m ix v:HV) (K:PL→Prop):Option (IntKind×HV)→Prop
 | some (q,_)=>(match m,ix with
  | .ref n ver,.int k x=>qT (zA PS n) fun ver' clock k' E=>ver=ver'∧k=k'∧k=q∧K (PS.set n (.map ver (if (vR x E).isSome then clock else clock+1) k (jb x v clock E)))
  | .ref n ver,.tok k x=>jD (zA PS n) fun ver' clock k' E=>ver=ver'∧k=k'∧k=q∧Yl x E∧K (PS.set n (.mapT ver (if (vr x E).isSome then clock else clock+1) k (kS x v clock E)))
  | _,_=>False)
 | none=>False
def Zu (PS:PL) (m ix:HV) (K:HV→PL→Prop):Option (IntKind×HV)→Prop
 | some (q,_)=>(match m,ix with
  | .ref n ver,.int k x=>qT (zA PS n) fun ver' clock k' E=>ver=ver'∧k=k'∧k=q∧K (.tup []) (PS.set n (.map ver clock k (kV x E)))
  | _,_=>False)
 | none=>False
def gD (PS:PL) (m:HV) (K:HV→PL→Prop):Option (IntKind×HV)→Prop
 | some _=>(match m with
  | .ref n ver=>qT (zA PS n) fun ver' clock _ _=>ver=ver'∧K (.ref PS.length 0) (PS++[.iter 0 (.ref n ver) clock [] clock])
  | _=>False)
 | none=>False
def jA (PS:PL) (it:HV) (K:HV→PL→Prop):Prop:=
 match it with
 | .ref n ver=>ZJ (zA PS n) fun ver' x since seen last=>ver=ver'∧(match x with
  | .ref m mver=>qT (zA PS m) fun mv clock k E=>mver=mv∧clock=since∧clock=last∧
    (∀(i b:Nat) (key:Int) (y:HV),E[i]? =some (b,key,y)→b∉seen→K (.tup [.bool true,.int k key,y]) (PS.set n (.iter ver x since (seen++[b]) clock)))∧
    ((∀(i b:Nat) (key:Int) (y:HV),E[i]? =some (b,key,y)→b∈seen)→K (.tup [.bool false]) PS)
  | _=>False)
 | _=>False
def xq (b:Nat):qf→Option (Int×HV)
 | []=>none
 | e::E=>if e.1=b then some e.2 else xq b E
def gJ (PS:PL) (it:HV) (K:HV→Prop):Prop:=
 match it with
 | .ref n ver=>ZJ (zA PS n) fun ver' x _ seen last=>ver=ver'∧(match x with
  | .ref m mver=>qT (zA PS m) fun mv clock k E=>mver=mv∧clock=last∧(match seen.getLast?.bind (xq · E) with
   | some (key,y)=>K (.tup [.int k key,y])
   | none=>False)
  | _=>False)
 | _=>False
theorem Qy (M:Nat→Prop) (e:List Pos) (w:World) (v:Value):zH M e w (zv v) v:=by
 unfold zv
 split
 ·rename_i cs
  refine .agg _ _ (by simp) fun i x u hx hu=>?_
  have hu':cs.toList[i]? =some u:=by simpa using hu
  rw[List.getElem?_map,hu'] at hx
  simp at hx
  subst hx
  exact xc M e w u
 ·exact xc M e w v
theorem VJ {P:Program} {t:TypeId} {q:IntKind} {z:HV} (h:qA P t=some (q,z)):∃kt et i zv0,P.underlying t=some (.map kt et)∧P.underlying kt=some (.int q)∧P.info? et=some i∧i.zero=some zv0∧z=zv zv0:=by
 unfold qA at h
 split at h
 ·rename_i kt et hu
  split at h
  ·rename_i q hk
   cases hi:P.info? et with
   | none=>rw[hi] at h;cases h
   | some i=>
    rw[hi] at h
    simp only[Option.bind_some] at h
    cases hz:i.zero with
    | none=>rw[hz] at h;cases h
    | some v=>rw[hz] at h;simp only[Option.bind_some,Option.map_some,Option.some.injEq,Prod.mk.injEq] at h;obtain⟨rfl,rfl⟩:=h;exact⟨kt,et,i,v,hu,hk,hi,hz,rfl⟩
  ·cases h
 ·cases h
/-- Where a key stands. -/
theorem Wh (q k:IntKind) (x:Int):∀(es:List MapEntry) (E:qf) (i0:Nat),es.length=E.length→(∀(i n:Nat) (y:Int) (z:HV) (u:MapEntry),E[i]? =some (n,y,z)→es[i]? =some u→u.key=.int k y)→
  (vR x E=none∧Instr.findNow (.int q) (.int k x) es i0=some none∧(∀v c,jb x v c E=E++[(c,x,v)])∧kV x E=E)∨
  ∃(j n:Nat) (z:HV) (u:MapEntry),vR x E=some z∧E[j]? =some (n,x,z)∧es[j]? =some u∧Instr.findNow (.int q) (.int k x) es i0=some (some (i0+j,u.val))∧(∀v c,jb x v c E=E.set j (n,x,v))∧kV x E=E.eraseIdx j
 | [],[],_,_,_=>.inl ⟨rfl,rfl,fun _ _=>rfl,rfl⟩
 | u::es,(n,y,z)::E,i0,hl,hk=>by
  have hu:u.key=.int k y:=hk 0 n y z u rfl rfl
  have ih:=Wh q k x es E (i0+1) (by simpa using hl) (fun i n y z u h1 h2=>hk (i+1) n y z u (by simpa using h1) (by simpa using h2))
  by_cases hy:y=x
  ·subst hy
   refine .inr ⟨0,n,z,u,by simp[vR],rfl,rfl,?_,fun v c=>by simp[jb],by simp[kV]⟩
   simp[Instr.findNow,Instr.sameNow,hu]
  ·have hxy:(x == y)=false:=by simpa using fun h=>hy h.symm
   have hf:Instr.findNow (.int q) (.int k x) (u::es) i0=Instr.findNow (.int q) (.int k x) es (i0+1):=by
    simp only[Instr.findNow,Instr.sameNow,hu,if_true,hxy]
   rcases ih with ⟨h1,h2,h3,h4⟩ | ⟨j,n',z',u',h1,h2,h3,h4,h5,h6⟩
   ·exact .inl ⟨by simp[vR,hy,h1],hf.trans h2,fun v c=>by simp[jb,hy,h3],by simp[kV,hy,h4]⟩
   ·exact .inr ⟨j+1,n',z',u',by simp[vR,hy,h1],by simpa using h2,by simpa using h3,by rw[hf,h4];congr 3;omega,fun v c=>by simp[jb,hy,h5],by simp[kV,hy,h6]⟩
 | [],_::_,_,hl,_=>by simp at hl
 | _::_,[],_,hl,_=>by simp at hl
section
variable {P:Program} {ds:List Deferred} {F:Nat→Prop} {e e0 e':List Pos} {D D0 D':Nat→Nat→Prop} {PS PS':PL} {w w0 w':World} {fr:Fr} {a:Act} {o:Oper} {Q:Exit→Act→World→Prop}
theorem Rel.root (h:Rel F e D PS w) {n:Nat} {q:zC} (hq:zA PS n=q) (hne:q≠ .dead):∃p,PS[n]? =some q∧e[n]? =some p∧yK (Mut F D) e w (D n) q p:=by
 have h1:=xj hq hne
 have hn:n<e.length:=by rw[h.len];exact(List.getElem?_eq_some_iff.1 h1).1
 exact⟨e[n],h1,by simp[hn],h.holds n q _ h1 (by simp[hn])⟩
theorem Rel.ZS (h:Rel F e D PS w) {n ver clock:Nat} {k:IntKind} {E:qf} (hq:zA PS n=.map ver clock k E):
  ∃p b,PS[n]? =some (.map ver clock k E)∧e[n]? =some p∧p.ver=ver∧p.kind=.root (.map (some b))∧(∀x,D n x↔x=b)∧gY (Mut F D) e w clock k E b:=by
 obtain⟨p,h1,h2,h3⟩:=h.root hq (by simp)
 unfold yK at h3
 cases hk:p.kind with
 | root v=>
  simp only[hk] at h3
  obtain⟨hv,b,rfl,hD,hm⟩:=h3
  exact⟨p,b,h1,h2,hv.symm,hk,hD,hm⟩
 | arr b o sz' cap=>simp only[hk] at h3
 | nil=>simp only[hk] at h3
 | dead=>simp only[hk] at h3
theorem Rel.zEd (h:Rel F e D PS w) {n ver since last:Nat} {x:HV} {seen:List Nat} (hq:zA PS n=.iter ver x since seen last):
  ∃p b m,PS[n]? =some (.iter ver x since seen last)∧e[n]? =some p∧p.ver=ver∧p.kind=.root (.pointer (some ⟨b,0,none⟩))∧(∀x,D n x↔x=b)∧zH (Mut F D) e w x (.map (some m))∧w.heap[b]? =some (.mapIter (some m) since seen.toArray last):=by
 obtain⟨p,h1,h2,h3⟩:=h.root hq (by simp)
 unfold yK at h3
 cases hk:p.kind with
 | root v=>
  simp only[hk] at h3
  obtain⟨hv,b,rfl,hD,m,hm,hb⟩:=h3
  exact⟨p,b,m,h1,h2,hv.symm,hk,hD,hm,hb⟩
 | arr b o sz' cap=>simp only[hk] at h3
 | nil=>simp only[hk] at h3
 | dead=>simp only[hk] at h3
theorem gh {M:Nat→Prop} {n ver:Nat} {u v:Value} {p:Pos} (hx:zH M e w (.ref n ver) u) (hp:e[n]? =some p) (hv:p.ver=ver) (hk:p.kind=.root v):u=v:=by
 cases hx with
 | ref _ _ _ p' hp' hv' h h1=>
  rw[hp] at hp';cases hp'
  have:=h hv.symm
  rw[hk] at this
  exact this
theorem zFS (hr:Rel F e D PS w) {t:TypeId} {m:HV} {k:IntKind} {x:Int} {u:Value} {ok:Bool} {K:HV→Prop} (hm:zH (Mut F D) e w m u) (hc:wZ PS m (.int k x) ok K (qA P t)):
  ∃y r,(Instr.lookup t u (.int k x) ok).run P w=.ok r w∧zH (Mut F D) e w y r∧K y:=by
 cases hz:qA P t with
 | none=>rw[hz] at hc;exact hc.elim
 | some qz=>
  obtain⟨q,z⟩:=qz
  rw[hz] at hc
  obtain⟨kt,et,i,zv0,hu,hkt,hinf,hzero,rfl⟩:=VJ hz
  cases m<;>first | exact hc.elim | skip
  rename_i n ver
  simp only[wZ] at hc
  cases hq:zA PS n<;>rw[hq] at hc<;>first | exact hc.elim | skip
  rename_i ver' clock k' E
  obtain⟨rfl,rfl,rfl,hK⟩:=hc
  obtain⟨p,b,_,hp,hpv,hk,_,es,hb,hl,qk⟩:=hr.ZS hq
  obtain rfl:=gh hm hp hpv hk
  have hck:=run_checkKey (P:=P) (w:=w) hkt (k:=.int k x) (by simp[IsKey]) es.isEmpty 9999
  have hzr:(zeroValue et).run P w=.ok zv0 w:=by simp[zeroValue,typeInfo,hinf,hzero]
  have key:=Wh k k x es.toList E 0 (by simpa using hl) (fun i n y z u h1 h2=>(qk i n y z u h1 (by simpa using h2)).2.2.1)
  have hrun:∀(r:Option (Nat×Value)) (vv:Value) (bb:Bool),Instr.findNow (.int k) (.int k x) es.toList 0=some r→(match r with | some (_,v)=>(v,true) | none=>(zv0,false))=(vv,bb)→
    (Instr.lookup t (.map (some b)) (.int k x) ok).run P w=.ok (if ok then .tuple #[vv,.bool bb] else vv) w:=by
   intro r vv bb h1 h2
   unfold Instr.lookup
   simp only[Sem.run_bind,run_underlying hu,Result.andThen_ok,Go.MapKept.run_getObj_map hb,Sem.run_pure,hck,run_findKey hkt h1]
   cases r with
   | none=>simp at h2;simp[hzr,h2]
   | some r=>obtain⟨j,v⟩:=r;simp at h2;simp[h2]
  rcases key with ⟨h1,h2,_,_⟩ | ⟨j,n',z',u',h1,h2,h3,h4,_,_⟩
  ·rw[h1] at hK
   refine⟨_,_,hrun none zv0 false h2 rfl,?_,hK⟩
   cases ok
   ·exact Qy _ _ _ _
   ·refine .tup _ _ rfl fun i a b ha hb=>?_
    match i with
    | 0=>simp at ha hb;subst ha;subst hb;exact Qy _ _ _ _
    | 1=>simp at ha hb;subst ha;subst hb;exact .bool false
    | i+2=>simp at ha
  ·rw[h1] at hK
   have zT:=(qk j n' x z' u' h2 (by simpa using h3)).2.2.2
   refine⟨_,_,hrun (some (0+j,u'.val)) u'.val true h4 rfl,?_,hK⟩
   cases ok
   ·exact zT
   ·refine .tup _ _ rfl fun i a b ha hb=>?_
    match i with
    | 0=>simp at ha hb;subst ha;subst hb;exact zT
    | 1=>simp at ha hb;subst ha;subst hb;exact .bool true
    | i+2=>simp at ha
/-- A map's keys by name,or by number. -/
theorem Rel.swap (h:Rel F e D PS w) {n:Nat} {q q':zC} (hn:PS[n]? =some q) (hq:∀p,yK (Mut F D) e w (D n) q p→yK (Mut F D) e w (D n) q' p):Rel F e D (PS.set n q') w:=by
 have hnl:n<PS.length:=(List.getElem?_eq_some_iff.1 hn).1
 refine h.next (.refl e D w) (by simp[h.len]) (fun i x hx=>?_) h.apart (fun i r s hr hs=>?_)
 ·have:=h.out i x hx
  exact⟨by simpa using this.1,this.2.1,this.2.2⟩
 ·by_cases hi:n=i
  ·subst hi
   right
   simp[hnl] at hr
   subst hr
   exact hq _ (h.holds n q s hn hs)
  ·left
   rw[List.getElem?_set_ne hi] at hr
   exact⟨hr,hs,fun _=>Iff.rfl,fun _ _=>rfl⟩
theorem Rel.toInt (h:Rel F e D PS w) {n:Nat} {C:Nat→Nat→IntKind→jG→Prop} (hc:jD (zA PS n) C):
  ∃ver clock k E,C ver clock k E∧n<PS.length∧Rel F e D (PS.set n (.map ver clock k (wo E))) w:=by
 have hlt:zA PS n≠ .dead→n<PS.length:=fun hd=>by
  by_cases hn:n<PS.length
  ·exact hn
  ·exact absurd (by simp[zA,List.getD,List.getElem?_eq_none (Nat.le_of_not_lt hn)]) hd
 cases hq:zA PS n with
 | map ver clock k E=>
  rw[hq] at hc
  have hn:=hlt (by rw[hq];simp)
  have hs:PS[n]? =some (.map ver clock k E):=by rw[←hq];simp[zA,List.getD,hn]
  cases E with
  | nil=>exact⟨ver,clock,k,[],hc,hn,h.swap hs fun p hp=>hp⟩
  | cons a E=>exact hc.elim
 | mapT ver clock k E=>
  rw[hq] at hc
  have hn:=hlt (by rw[hq];simp)
  have hs:PS[n]? =some (.mapT ver clock k E):=by rw[←hq];simp[zA,List.getD,hn]
  exact⟨ver,clock,k,E,hc,hn,h.swap hs fun p hp=>by obtain⟨pv,kind⟩:=p;cases kind<;>exact hp⟩
 | dead=>rw[hq] at hc;exact hc.elim
 | arr _ _ _ _=>rw[hq] at hc;exact hc.elim
 | iter _ _ _ _ _=>rw[hq] at hc;exact hc.elim
 | rnd _ _ _ _ _ _ _ _=>rw[hq] at hc;exact hc.elim
theorem zBk {n:Nat} {q:zC} (h:n<PS.length):zA (PS.set n q) n=q:=by simp[zA,List.getD,h]
theorem zLx (hr:Rel F e D PS w) {t:TypeId} {m ix:HV} {u v:Value} {ok:Bool} {K:HV→Prop} (hm:zH (Mut F D) e w m u) (hi:zH (Mut F D) e w ix v) (hc:wZ PS m ix ok K (qA P t)):
  ∃y r,(Instr.lookup t u v ok).run P w=.ok r w∧zH (Mut F D) e w y r∧K y:=by
 cases ix with
 | int k x=>cases hi;exact zFS hr hm hc
 | tok k i=>
  cases hi
  cases hz:qA P t with
  | none=>rw[hz] at hc;exact hc.elim
  | some qz=>
   obtain⟨q,z⟩:=qz
   rw[hz] at hc
   cases m<;>first | exact hc.elim | skip
   rename_i n ver
   simp only[wZ] at hc
   obtain⟨ver',clock,k',E,⟨rfl,rfl,rfl,hd,hK⟩,hn,hr'⟩:=hr.toInt hc
   refine zFS (P:=P) (t:=t) (ok:=ok) (K:=K) hr' hm ?_
   rw[hz]
   simp only[wZ,zBk hn,qT]
   rw[GS hd]
   exact⟨trivial,trivial,trivial,hK⟩
 | _=>
  cases hz:qA P t with
  | none=>rw[hz] at hc;exact hc.elim
  | some qz=>obtain⟨q,z⟩:=qz;rw[hz] at hc;cases m<;>exact hc.elim
/-- A new object,known by its root. -/
theorem Rel.Kr (h:Rel F e D PS w) (ob:Obj) (q:zC) (v:Value)
  (hq:∀Dn:Nat→Prop,(∀x,Dn x↔x=w.heap.size)→yK (Mut F (we D PS.length w.heap.size)) (e++[⟨0,.root v⟩]) (w.alloc ob) Dn q ⟨0,.root v⟩):
  Rel F (e++[⟨0,.root v⟩]) (we D PS.length w.heap.size) (PS++[q]) (w.alloc ob):=by
 have ht:Tr e D w (e++[⟨0,.root v⟩]) (we D PS.length w.heap.size) (w.alloc ob):=Tr.add _ _ _
 refine h.next ht (by simp[h.len]) ?_ ?_ ?_
 ·intro i b hb
  rcases hb with hb | ⟨rfl,rfl⟩
  ·have:=h.out i b hb
   exact⟨by simp;omega,by simp;omega,this.2.2⟩
  ·exact⟨by simp,by simp,fun hf=>Nat.lt_irrefl _ (h.fore _ hf)⟩
 ·intro i j b hi hj
  rcases hi with hi | ⟨rfl,rfl⟩<;>rcases hj with hj | ⟨rfl,hb⟩
  ·exact h.apart i j b hi hj
  ·have:=(h.out i b hi).2.1;omega
  ·have:=(h.out j _ hj).2.1;omega
  ·rfl
 ·intro i q' p hq' hp
  by_cases hi:i<PS.length
  ·left
   rw[List.getElem?_append_left hi] at hq'
   rw[List.getElem?_append_left (by rw[h.len];exact hi)] at hp
   refine⟨hq',hp,fun b=>⟨fun hb=>?_,fun hb=>.inl hb⟩,fun b hb=>RowKit.Below.heap_alloc w _ b (h.out i b hb).2.1⟩
   rcases hb with hb | ⟨rfl,_⟩
   ·exact hb
   ·exact absurd hi (Nat.lt_irrefl _)
  ·right
   have hi':i=PS.length:=by
    have:=(List.getElem?_eq_some_iff.1 hq').1
    simp at this;omega
   subst hi'
   simp at hq'
   rw[←h.len] at hp
   simp at hp
   subst hq';subst hp
   refine hq _ fun x=>⟨fun hx=>?_,fun hx=>.inr ⟨rfl,hx⟩⟩
   rcases hx with hx | ⟨_,hx⟩
   ·exact absurd (h.out _ _ hx).1 (Nat.lt_irrefl _)
   ·exact hx
abbrev wP (w:World) (b:Nat) (ob:Obj):World:={w with heap:=w.heap.setIfInBounds b ob}
theorem Tr.put {n b:Nat} {ob:Obj} (hD:D n b):Tr e D w e D (wP w b ob):=
 ⟨rfl,rfl,rfl,by simp[wP],fun x hx hn=>by
  have:b≠x:=fun hh=>hn n (hh▸hD)
  simp[wP,Array.getElem?_setIfInBounds,this],fun i x h=>.inl ⟨i,h⟩,.refl e⟩
/-- An object is replaced,its root stays. -/
theorem Rel.putObj (h:Rel F e D PS w) {n b:Nat} {q q':zC} {p:Pos} {ob:Obj} (hn:PS[n]? =some q) (hp:e[n]? =some p) (hD:∀x,D n x↔x=b)
  (hq:yK (Mut F D) e (wP w b ob) (D n) q' p):Rel F e D (PS.set n q') (wP w b ob):=by
 have hnl:n<PS.length:=(List.getElem?_eq_some_iff.1 hn).1
 refine h.next (Tr.put ((hD b).2 rfl)) (by simp[h.len]) (fun i x hx=>?_) h.apart (fun i r s hr hs=>?_)
 ·have:=h.out i x hx
  exact⟨by simpa using this.1,by simpa [wP] using this.2.1,this.2.2⟩
 ·by_cases hi:n=i
  ·subst hi
   right
   simp[hnl] at hr
   rw[hp] at hs;cases hs
   subst hr
   exact hq
  ·left
   rw[List.getElem?_set_ne hi] at hr
   refine⟨hr,hs,fun _=>Iff.rfl,fun x hx=>?_⟩
   have:b≠x:=fun hh=>hi (h.apart n i x ((hD x).2 hh.symm) hx)
   simp[wP,Array.getElem?_setIfInBounds,this]
theorem zEa (hr:Rel F e D PS w) {t:TypeId} {m x:HV} {k:IntKind} {key:Int} {u y:Value} {K:PL→Prop} (hm:zH (Mut F D) e w m u) (hx:zH (Mut F D) e w x y) (hc:uj PS m (.int k key) x K (qA P t)):
  ∃PS' w',(Instr.mapUpdate t u (.int k key) y).run P w=.ok () w'∧Rel F e D PS' w'∧Tr e D w e D w'∧K PS':=by
 cases hz:qA P t with
 | none=>rw[hz] at hc;exact hc.elim
 | some qz=>
  obtain⟨q,z⟩:=qz
  rw[hz] at hc
  obtain⟨kt,et,i,zv0,hu,hkt,hinf,hzero,rfl⟩:=VJ hz
  cases m<;>first | exact hc.elim | skip
  rename_i n ver
  simp only[uj] at hc
  cases hq:zA PS n<;>rw[hq] at hc<;>first | exact hc.elim | skip
  rename_i ver' clock k' E
  obtain⟨rfl,rfl,rfl,hK⟩:=hc
  obtain⟨p,b,hn,hp,hpv,hk,hD,es,hb,hl,qk⟩:=hr.ZS hq
  obtain rfl:=gh hm hp hpv hk
  have hck:=run_checkKey (P:=P) (w:=w) hkt (k:=.int k key) (by simp[IsKey]) false 9999
  have hfk:=Wh k k key es.toList E 0 (by simpa using hl) (fun i n y z u h1 h2=>(qk i n y z u h1 (by simpa using h2)).2.2.1)
  have hDb:=(hD b).2 rfl
  have hbs:∀ob:Obj,(wP w b ob).heap[b]? =some ob:=fun ob=>(heap_set (o':=ob) hb).1
  have fin:∀(es':Array MapEntry) (clock':Nat) (E':qf),es'.size=E'.length→
    (∀(i:Nat) (n:Nat) (z:Int) (y:HV) (u:MapEntry),E'[i]? =some (n,z,y)→es'[i]? =some u→u.born=n∧n<clock'∧u.key=.int k z∧zH (Mut F D) e w y u.val)→
    Rel F e D (PS.set n (.map ver clock' k E')) (wP w b (.map es' clock')):=by
   intro es' clock' E' h1 h2
   refine hr.putObj hn hp hD ?_
   unfold yK
   simp only[hk]
   refine⟨hpv.symm,b,rfl,hD,es',hbs _,h1,fun i nn z y u h3 h4=>?_⟩
   obtain⟨a1,a2,a3,a4⟩:=h2 i nn z y u h3 h4
   exact⟨a1,a2,a3,a4.mono (Tr.put (e:=e) (n:=n) (ob:=.map es' clock') hDb).stays (.refl e)⟩
  rcases hfk with ⟨h1,h2,h3,_⟩ | ⟨j,n',z',u',h1,h2,h3,h4,h5,_⟩
  ·rw[h1,h3] at hK
   simp only[Option.isSome_none,Bool.false_eq_true,if_false] at hK
   refine⟨_,wP w b (.map (es.push {key:=.int k key,val:=y,born:=clock}) (clock+1)),?_,fin _ _ _ (by simp[hl]) (fun i n z yy uu h6 h7=>?_),Tr.put hDb,hK⟩
   ·unfold Instr.mapUpdate
    simp only[Sem.run_bind,run_underlying hu,Result.andThen_ok,Go.MapKept.run_getObj_map hb,hck,run_findKey hkt h2,Go.MapKept.run_setObj_map _ hb]
   ·rw[Array.getElem?_push] at h7
    by_cases hil:i<E.length
    ·rw[List.getElem?_append_left hil] at h6
     rw[if_neg (by omega)] at h7
     obtain⟨a1,a2,a3,a4⟩:=qk i n z yy uu h6 h7
     exact⟨a1,by omega,a3,a4⟩
    ·have hie:i=E.length:=by
      have:=(List.getElem?_eq_some_iff.1 h6).1
      simp at this;omega
     subst hie
     rw[if_pos (by omega)] at h7
     simp at h6
     cases h7
     obtain⟨rfl,rfl,rfl⟩:=h6
     exact⟨rfl,by omega,rfl,hx⟩
  ·rw[h1,h5] at hK
   simp only[Option.isSome_some,if_true] at hK
   have hu':=qk j n' key z' u' h2 (by simpa using h3)
   refine⟨_,wP w b (.map (es.modify j fun e=>{e with key:=.int k key,val:=y}) clock),?_,fin _ _ _ (by simp[hl]) (fun i n z yy uu h6 h7=>?_),Tr.put hDb,hK⟩
   ·unfold Instr.mapUpdate
    have h3':es[j]? =some u':=by simpa using h3
    simp only[Sem.run_bind,run_underlying hu,Result.andThen_ok,Go.MapKept.run_getObj_map hb,hck,run_findKey hkt h4,Nat.zero_add,h3',Option.map_some,Option.getD_some,hu'.2.2.1,Instr.keyThatStays,Instr.sameBits,beq_self_eq_true,Bool.and_self,if_true,Sem.run_pure,Go.MapKept.run_setObj_map _ hb]
   ·rw[Array.getElem?_modify] at h7
    rw[List.getElem?_set] at h6
    by_cases hij:j=i
    ·subst hij
     have h3':es[j]? =some u':=by simpa using h3
     have hjl:j<E.length:=(List.getElem?_eq_some_iff.1 h2).1
     simp only[if_true,hjl,Option.some.injEq,Prod.mk.injEq] at h6
     rw[if_pos rfl,h3'] at h7
     simp at h7
     obtain⟨rfl,rfl,rfl⟩:=h6
     subst h7
     exact⟨hu'.1,hu'.2.1,rfl,hx⟩
    ·rw[if_neg hij] at h6 h7
     exact qk i n z yy uu h6 h7
theorem zGN (hr:Rel F e D PS w) {t:TypeId} {m ix x:HV} {u v y:Value} {K:PL→Prop} (hm:zH (Mut F D) e w m u) (hi:zH (Mut F D) e w ix v) (hx:zH (Mut F D) e w x y) (hc:uj PS m ix x K (qA P t)):
  ∃PS' w',(Instr.mapUpdate t u v y).run P w=.ok () w'∧Rel F e D PS' w'∧Tr e D w e D w'∧K PS':=by
 cases ix with
 | int k x=>cases hi;exact zEa hr hm hx hc
 | tok k i=>
  cases hi
  cases hz:qA P t with
  | none=>rw[hz] at hc;exact hc.elim
  | some qz=>
   obtain⟨q,z⟩:=qz
   rw[hz] at hc
   cases m<;>first | exact hc.elim | skip
   rename_i n ver
   simp only[uj] at hc
   obtain⟨ver',clock,k',E,⟨rfl,rfl,rfl,hd,hK⟩,hn,hr'⟩:=hr.toInt hc
   obtain⟨PS',w',h1,h2,h3,rfl⟩:=zEa (P:=P) (t:=t) (k:=k) (key:=zB.num i) (K:=fun PS'=>PS'=PS.set n (.map ver (if (vr i E).isSome then clock else clock+1) k (wo (kS i x clock E)))) hr' hm hx (by
    rw[hz]
    simp only[uj,zBk hn,qT]
    rw[GS hd,zBV hd,List.set_set]
    exact⟨trivial,trivial,trivial,rfl⟩)
   refine⟨_,w',h1,?_,h3,hK⟩
   have:=h2.swap (n:=n) (q:=.map ver (if (vr i E).isSome then clock else clock+1) k (wo (kS i x clock E))) (q':=.mapT ver (if (vr i E).isSome then clock else clock+1) k (kS i x clock E)) (by simp[hn]) fun p hp=>by obtain⟨pv,kind⟩:=p;cases kind<;>exact hp
   rwa [List.set_set] at this
 | _=>
  cases hz:qA P t with
  | none=>rw[hz] at hc;exact hc.elim
  | some qz=>obtain⟨q,z⟩:=qz;rw[hz] at hc;cases m<;>exact hc.elim
theorem zMS (hr:Rel F e D PS w) {t:TypeId} {m ix:HV} {u v:Value} {ty:TypeId} {ts:Array TypeId} {K:HV→PL→Prop} (ht0:ts[0]? =some t) (hm:zH (Mut F D) e w m u) (hi:zH (Mut F D) e w ix v) (hc:Zu PS m ix K (qA P t)):
  ∃PS' w',(Builtin.delete_ ts ty #[u,v]).run P w=.ok (.tuple #[]) w'∧Rel F e D PS' w'∧Tr e D w e D w'∧K (.tup []) PS':=by
 cases hz:qA P t with
 | none=>rw[hz] at hc;exact hc.elim
 | some qz=>
  obtain⟨q,z⟩:=qz
  rw[hz] at hc
  obtain⟨kt,et,i,zv0,hu,hkt,hinf,hzero,rfl⟩:=VJ hz
  cases m<;>first | exact hc.elim | skip
  rename_i n ver
  cases ix<;>first | exact hc.elim | skip
  rename_i k key
  cases hi
  simp only[Zu] at hc
  cases hq:zA PS n<;>rw[hq] at hc<;>first | exact hc.elim | skip
  rename_i ver' clock k' E
  obtain⟨rfl,rfl,rfl,hK⟩:=hc
  obtain⟨p,b,hn,hp,hpv,hk,hD,es,hb,hl,qk⟩:=hr.ZS hq
  obtain rfl:=gh hm hp hpv hk
  have hck:=run_checkKey (P:=P) (w:=w) hkt (k:=.int k key) (by simp[IsKey]) es.isEmpty 9999
  have hfk:=Wh k k key es.toList E 0 (by simpa using hl) (fun i n y z u h1 h2=>(qk i n y z u h1 (by simpa using h2)).2.2.1)
  have hDb:=(hD b).2 rfl
  have hbs:∀ob:Obj,(wP w b ob).heap[b]? =some ob:=fun ob=>(heap_set (o':=ob) hb).1
  have fin:∀(es':Array MapEntry) (E':qf),es'.size=E'.length→
    (∀(i:Nat) (n:Nat) (z:Int) (y:HV) (u:MapEntry),E'[i]? =some (n,z,y)→es'[i]? =some u→u.born=n∧n<clock∧u.key=.int k z∧zH (Mut F D) e w y u.val)→
    Rel F e D (PS.set n (.map ver clock k E')) (wP w b (.map es' clock)):=by
   intro es' E' h1 h2
   refine hr.putObj hn hp hD ?_
   unfold yK
   simp only[hk]
   refine⟨hpv.symm,b,rfl,hD,es',hbs _,h1,fun i nn z y u h3 h4=>?_⟩
   obtain⟨a1,a2,a3,a4⟩:=h2 i nn z y u h3 h4
   exact⟨a1,a2,a3,a4.mono (Tr.put (e:=e) (n:=n) (ob:=.map es' clock) hDb).stays (.refl e)⟩
  rcases hfk with ⟨_,h2,_,h3⟩ | ⟨j,n',z',u',_,h2,h3,h4,_,h5⟩
  ·rw[h3] at hK
   refine⟨_,wP w b (.map es clock),?_,fin _ _ hl qk,Tr.put hDb,hK⟩
   unfold Builtin.delete_
   simp only[ht0,List.getElem?_toArray,List.getElem?_cons_zero,List.getElem?_cons_succ,Sem.run_bind,run_underlying hu,Result.andThen_ok,Go.MapKept.run_getObj_map hb,hck,run_findKey hkt h2,Go.MapKept.run_setObj_map _ hb,Sem.run_pure]
  ·rw[h5] at hK
   have hjl:j<es.size:=by rw[hl];exact(List.getElem?_eq_some_iff.1 h2).1
   refine⟨_,wP w b (.map (es.eraseIdxIfInBounds j) clock),?_,fin _ _ ?_ (fun i n z yy uu h6 h7=>?_),Tr.put hDb,hK⟩
   ·unfold Builtin.delete_
    simp only[ht0,List.getElem?_toArray,List.getElem?_cons_zero,List.getElem?_cons_succ,Sem.run_bind,run_underlying hu,Result.andThen_ok,Go.MapKept.run_getObj_map hb,hck,run_findKey hkt h4,Nat.zero_add,Go.MapKept.run_setObj_map _ hb,Sem.run_pure]
   ·have hjE:=(List.getElem?_eq_some_iff.1 h2).1
    simp[Array.eraseIdxIfInBounds,hjl,List.length_eraseIdx,hjE,hl]
   ·have h8:(es.eraseIdxIfInBounds j)[i]? =(es.toList.eraseIdx j)[i]? :=by
     rw[←Array.getElem?_toList];simp[Array.eraseIdxIfInBounds,hjl]
    rw[h8,List.getElem?_eraseIdx] at h7
    rw[List.getElem?_eraseIdx] at h6
    split at h6
    ·rename_i hij
     rw[if_pos hij] at h7
     exact qk i n z yy uu h6 (by simpa using h7)
    ·rename_i hij
     rw[if_neg hij] at h7
     exact qk (i+1) n z yy uu h6 (by simpa using h7)
theorem zJL (hr:Rel F e D PS w) {t:TypeId} {K:HV→PL→Prop} (hc:ZZ PS K (Yv P t)):
  ∃y r PS' e' D' w',(Instr.makeMap t none).run P w=.ok r w'∧Rel F e' D' PS' w'∧Tr e D w e' D' w'∧zH (Mut F D') e' w' y r∧K y PS':=by
 cases hz:Yv P t with
 | none=>rw[hz] at hc;exact hc.elim
 | some k=>
  rw[hz] at hc
  refine⟨_,.map (some w.heap.size),_,_,_,w.alloc (.map #[] 0),rfl,hr.Kr (.map #[] 0) (.map 0 0 k []) (.map (some w.heap.size)) (fun Dn hD=>?_),Tr.add _ _ _,?_,hc⟩
  ·exact⟨rfl,w.heap.size,rfl,hD,#[],heap_alloc_new w _,rfl,by simp⟩
  ·exact .ref _ 0 _ ⟨0,.root _⟩ (by simp[←hr.len]) (Nat.le_refl _) (fun _=>rfl) rfl
theorem zLI (hr:Rel F e D PS w) {t:TypeId} {m:HV} {u:Value} {K:HV→PL→Prop} (hm:zH (Mut F D) e w m u) (hc:gD PS m K (qA P t)):
  ∃y r PS' e' D' w',(Instr.range t u).run P w=.ok r w'∧Rel F e' D' PS' w'∧Tr e D w e' D' w'∧zH (Mut F D') e' w' y r∧K y PS':=by
 cases hz:qA P t with
 | none=>rw[hz] at hc;exact hc.elim
 | some qz=>
  obtain⟨q,z⟩:=qz
  rw[hz] at hc
  obtain⟨kt,et,i,zv0,hu,hkt,hinf,hzero,rfl⟩:=VJ hz
  cases m<;>first | exact hc.elim | skip
  rename_i n ver
  simp only[gD] at hc
  cases hq:zA PS n<;>rw[hq] at hc<;>first | exact hc.elim | skip
  rename_i ver' clock k' E
  obtain⟨rfl,hK⟩:=hc
  obtain⟨p,b,hn,hp,hpv,hk,hD,es,hb,hl,qk⟩:=hr.ZS hq
  have hm':=hm
  obtain rfl:=gh hm hp hpv hk
  refine⟨_,.pointer (some ⟨w.heap.size,0,none⟩),_,_,_,w.alloc (.mapIter (some b) clock #[] clock),?_,hr.Kr (.mapIter (some b) clock #[] clock) (.iter 0 (.ref n ver) clock [] clock) (.pointer (some ⟨w.heap.size,0,none⟩)) (fun Dn hD'=>?_),Tr.add _ _ _,?_,hK⟩
  ·unfold Instr.range
   simp only[Sem.run_bind,run_underlying hu,Result.andThen_ok,Go.MapKept.run_getObj_map hb,Sem.run_pure]
   rfl
  ·exact⟨rfl,w.heap.size,rfl,hD',b,hm'.mono (Tr.add (e:=e) (.mapIter (some b) clock #[] clock) PS.length ⟨0,.root (.pointer (some ⟨w.heap.size,0,none⟩))⟩).stays (Tr.add (e:=e) (D:=D) (w:=w) (.mapIter (some b) clock #[] clock) PS.length _).env,heap_alloc_new w _⟩
  ·exact .ref _ 0 _ ⟨0,.root _⟩ (by simp[←hr.len]) (Nat.le_refl _) (fun _=>rfl) rfl
theorem zRj (hr:Rel F e D PS w) {it:HV} {u:Value} {K:HV→Prop} (hm:zH (Mut F D) e w it u) (hc:gJ PS it K):
  ∃y r,(Instr.entry u).run P w=.ok r w∧zH (Mut F D) e w y r∧K y:=by
 cases it<;>first | exact hc.elim | skip
 rename_i n ver
 simp only[gJ] at hc
 cases hq:zA PS n<;>rw[hq] at hc<;>first | exact hc.elim | skip
 rename_i ver' x since seen last
 obtain⟨rfl,hc⟩:=hc
 obtain⟨p,b,m,hn,hp,hpv,hk,hD,hx,hb⟩:=hr.zEd hq
 obtain rfl:=gh hm hp hpv hk
 cases x<;>first | exact hc.elim | skip
 rename_i nm mver
 simp only at hc
 cases hqm:zA PS nm<;>rw[hqm] at hc<;>first | exact hc.elim | skip
 rename_i mv clock k E
 obtain⟨rfl,rfl,hc⟩:=hc
 obtain⟨pm,bm,hnm,hpm,hpvm,hkm,hDm,es,hbm,hl,qk⟩:=hr.ZS hqm
 have:=gh hx hpm hpvm hkm
 simp only[Value.map.injEq,Option.some.injEq] at this
 subst this
 cases hs:seen.getLast? with
 | none=>rw[hs] at hc;exact hc.elim
 | some bb=>
  rw[hs] at hc
  simp only[Option.bind_some] at hc
  cases he:xq bb E with
  | none=>rw[he] at hc;exact hc.elim
  | some ky=>
   obtain⟨key,y⟩:=ky
   rw[he] at hc
   have find:∀(es:List MapEntry) (E:qf),es.length=E.length→(∀(i:Nat) (n:Nat) (x:Int) (y:HV) (u:MapEntry),E[i]? =some (n,x,y)→es[i]? =some u→u.born=n∧n<clock∧u.key=.int k x∧zH (Mut F D) e w y u.val)→
     xq bb E=some (key,y)→∃u,es.find? (fun u=>u.born == bb)=some u∧u.key=.int k key∧zH (Mut F D) e w y u.val:=by
    intro es
    induction es with
    | nil=>intro E hl _ he;cases E<;>simp at hl;simp[xq] at he
    | cons u es ih=>
     intro E hl hh he
     obtain _ | ⟨⟨n,x,yy⟩,E⟩:=E
     ·simp at hl
     ·obtain⟨a1,a2,a3,a4⟩:=hh 0 n x yy u rfl rfl
      simp only[xq] at he
      by_cases hb:n=bb
      ·rw[if_pos hb] at he
       cases he
       exact⟨u,by simp[List.find?_cons,a1,hb],a3,a4⟩
      ·rw[if_neg hb] at he
       obtain⟨u',h1,h2⟩:=ih E (by simpa using hl) (fun i n x y u h1 h2=>hh (i+1) n x y u (by simpa using h1) (by simpa using h2)) he
       exact⟨u',by rw[List.find?_cons_of_neg (by simpa [a1] using hb)];exact h1,h2⟩
   obtain⟨ue,h1,h2,h3⟩:=find es.toList E (by simpa using hl) (fun i n x y u h1 h2=>qk i n x y u h1 (by simpa using h2)) he
   refine⟨_,.tuple #[ue.key,ue.val],?_,?_,hc⟩
   ·have hback:seen.toArray.back? =some bb:=by rw[List.back?_toArray];exact hs
    have hfind:es.find? (fun u=>u.born == bb)=some ue:=by rw[←Array.find?_toList];exact h1
    unfold Instr.entry
    simp[Sem.run_bind,getObj,Sem.run,hb,hbm,hback,hfind]
   ·rw[h2]
    refine .tup _ _ rfl fun i a b ha hb=>?_
    match i with
    | 0=>simp at ha hb;subst ha;subst hb;exact .int _ _
    | 1=>simp at ha hb;subst ha;subst hb;exact h3
    | i+2=>simp at ha
theorem zLC {n:Nat} (hn:0<n):∃c w1,(choose (.mapNext n)).run P w=.ok c w1∧c<n∧(w1=w∨w1=w.drew):=by
 rw[run_choose_drew]
 by_cases h:(Question.mapNext n).forced=true
 ·rw[if_pos h];exact⟨0,w,rfl,hn,.inl rfl⟩
 ·rw[if_neg h];exact⟨_,w.drew,rfl,Nat.mod_lt _ hn,.inr rfl⟩
theorem zHa (hr:Rel F e D PS w) {it:HV} {u:Value} {ty:TypeId} {K:HV→PL→Prop} (hm:zH (Mut F D) e w it u) (hc:jA PS it K):
  ∃y r PS' w',(Instr.next u false ty).run P w=.ok r w'∧Rel F e D PS' w'∧Tr e D w e D w'∧zH (Mut F D) e w' y r∧K y PS':=by
 cases it<;>first | exact hc.elim | skip
 rename_i n ver
 simp only[jA] at hc
 cases hq:zA PS n<;>rw[hq] at hc<;>first | exact hc.elim | skip
 rename_i ver' x since seen last
 obtain⟨rfl,hc⟩:=hc
 obtain⟨p,b,m,hn,hp,hpv,hk,hD,hx,hb⟩:=hr.zEd hq
 obtain rfl:=gh hm hp hpv hk
 cases x<;>first | exact hc.elim | skip
 rename_i nm mver
 simp only at hc
 cases hqm:zA PS nm<;>rw[hqm] at hc<;>first | exact hc.elim | skip
 rename_i mv clock k E
 obtain⟨rfl,rfl,rfl,qn,hover⟩:=hc
 obtain⟨pm,bm,hnm,hpm,hpvm,hkm,hDm,es,hbm,hl,qk⟩:=hr.ZS hqm
 have:=gh hx hpm hpvm hkm
 simp only[Value.map.injEq,Option.some.injEq] at this
 subst this
 have hborn:∀u∈es,u.born<clock:=by
  intro u hu
  obtain⟨i,hi⟩:=Array.getElem?_of_mem hu
  have hiE:i<E.length:=by rw[←hl];exact(Array.getElem?_eq_some_iff.1 hi).1
  have hEi:E[i]? =some (E[i].1,E[i].2.1,E[i].2.2):=by simp[hiE]
  obtain⟨a1,a2,_⟩:=qk i _ _ _ u hEi hi
  omega
 have hchk:(!seen.toArray.isEmpty&& !es.isEmpty&&es.all (fun u=>decide (u.born≥clock)))=false:=by
  cases hes:es.isEmpty
  ·have:es.all (fun u=>decide (u.born≥clock))=false:=by
    rw[Array.all_eq_false]
    have hpos:0<es.size:=by
     rcases Nat.eq_zero_or_pos es.size with h | h
     ·rw[Array.isEmpty] at hes;simp[h] at hes
     ·exact h
    refine⟨0,hpos,?_⟩
    have:=hborn es[0] (Array.getElem_mem hpos)
    simp;omega
   simp[this]
  ·simp
 have hold:(es.filter fun u=>!seen.toArray.contains u.born).filter (fun u=>decide (u.born<clock))=es.filter fun u=>!seen.toArray.contains u.born:=by
  rw[Array.filter_eq_self]
  intro u hu
  have:=hborn u (Array.mem_filter.1 hu).1
  simpa using this
 have hnew:(es.filter fun u=>!seen.toArray.contains u.born).filter (fun u=>decide (u.born≥clock))=#[]:=by
  rw[Array.filter_eq_empty_iff]
  intro u hu
  have:=hborn u (Array.mem_filter.1 hu).1
  simp;omega
 generalize hleft:(es.filter fun u=>!seen.toArray.contains u.born)=left at hold hnew
 have hmem:∀u,u∈left↔u∈es∧u.born∉seen:=by
  intro u;rw[←hleft,Array.mem_filter];simp
 have hDb:=(hD b).2 rfl
 have hcd:0<((if left.isEmpty then #[none] else #[])++(left++#[]).map some:Array (Option MapEntry)).size:=by
  cases hle:left.isEmpty
  ·rcases Nat.eq_zero_or_pos left.size with h | h
   ·rw[Array.isEmpty] at hle;simp[h] at hle
   ·simp;omega
  ·simp;omega
 obtain⟨c,w1,hch,hcl,hw1⟩:=zLC (P:=P) (w:=w) hcd
 have hr1:Rel F e D PS w1∧Tr e D w e D w1∧w1.heap=w.heap:=by
  rcases hw1 with rfl | rfl
  ·exact⟨hr,.refl _ _ _,rfl⟩
  ·exact⟨Vd hr,Tr.drew w,rfl⟩
 obtain⟨hr1,ht1,hheap⟩:=hr1
 obtain⟨x,hcx⟩:∃x,((if left.isEmpty then #[none] else #[])++(left++#[]).map some:Array (Option MapEntry))[c]? =some x:=⟨_,Array.getElem?_eq_getElem hcl⟩
 have hb1:w1.heap[b]? =some (.mapIter (some m) clock seen.toArray clock):=by rw[hheap];exact hb
 have hrun:(Instr.next (.pointer (some ⟨b,0,none⟩)) false ty).run P w=(match x with
   | some u=>Result.ok (.tuple #[.bool true,u.key,u.val]) (wP w1 b (.mapIter (some m) clock (seen.toArray.push u.born) clock))
   | none=>.ok (.tuple #[.bool false]) w1):=by
  unfold Instr.next
  simp only[Sem.run_bind,getObj,Sem.run,hb,hbm,hchk,Result.andThen,Bool.false_eq_true,if_false]
  simp only[hleft,hold,hnew]
  have hch':Sem.run P (choose (Question.mapNext ((if left.isEmpty then #[none] else #[])++(left++#[]).map some:Array (Option MapEntry)).size)) w=.ok c w1:=hch
  rw[hch']
  simp only[hcx]
  cases x with
  | none=>rfl
  | some u=>simp only[Sem.run_bind,setObj,Sem.run,hb1,Result.andThen];rfl
 cases x with
 | none=>
  have hemp:left.isEmpty=true:=by
   cases hle:left.isEmpty
   ·rw[hle] at hcx
    simp at hcx
   ·rfl
  refine⟨_,_,PS,w1,hrun,hr1,ht1,?_,hover fun i b key y hE=>?_⟩
  ·refine .tup _ _ rfl fun i a b ha hb=>?_
   match i with
   | 0=>simp at ha hb;subst ha;subst hb;exact .bool false
   | i+1=>simp at ha
  ·have hies:i<es.size:=by rw[hl];exact(List.getElem?_eq_some_iff.1 hE).1
   have hei:es[i]? =some es[i]:=by simp[hies]
   obtain⟨a1,_⟩:=qk i b key y es[i] hE hei
   by_cases hs:b∈seen
   ·exact hs
   ·have:es[i]∈left:=(hmem _).2 ⟨Array.getElem_mem hies,by rw[a1];exact hs⟩
    rw[Array.isEmpty_iff.1 hemp] at this
    simp at this
 | some u=>
  have hul:u∈left:=by
   have:=Array.mem_of_getElem? hcx
   rw[Array.mem_append] at this
   rcases this with h | h
   ·cases hle:left.isEmpty<;>rw[hle] at h<;>simp at h
   ·simpa using h
  obtain⟨hues,hus⟩:=(hmem u).1 hul
  obtain⟨i,hi⟩:=Array.getElem?_of_mem hues
  have hiE:i<E.length:=by rw[←hl];exact(Array.getElem?_eq_some_iff.1 hi).1
  have hEi:E[i]? =some (E[i].1,E[i].2.1,E[i].2.2):=by simp[hiE]
  obtain⟨a1,a2,a3,a4⟩:=qk i _ _ _ u hEi hi
  have hK:=qn i E[i].1 E[i].2.1 E[i].2.2 hEi (by rw[←a1];exact hus)
  have htp:Tr e D w1 e D (wP w1 b (.mapIter (some m) clock (seen.toArray.push u.born) clock)):=Tr.put hDb
  refine⟨_,_,_,_,hrun,hr1.putObj hn hp hD (q':=.iter ver (.ref nm mver) clock (seen++[E[i].1]) clock) ?_,ht1.trans htp,?_,hK⟩
  ·unfold yK
   simp only[hk]
   refine⟨hpv.symm,b,rfl,hD,m,hx.mono (ht1.trans htp).stays (.refl e),?_⟩
   rw[←a1]
   have:=(heap_set (o':=Obj.mapIter (some m) clock (seen.toArray.push u.born) clock) hb1).1
   simpa using this
  ·have hv4:=a4.mono (ht1.trans htp).stays (.refl e)
   rw[a3]
   refine .tup _ _ rfl fun i a b ha hb=>?_
   match i with
   | 0=>simp at ha hb;subst ha;subst hb;exact .bool true
   | 1=>simp at ha hb;subst ha;subst hb;exact .int _ _
   | 2=>simp at ha hb;subst ha;subst hb;exact hv4
   | i+3=>simp at ha
end
end Go.Eng
namespace Go.Eng
open Go
variable [zB]
def wV (P:Program) (PS:PL) (s d:TypeId) (x:HV) (K:HV→Prop):Prop:=
 match x with
 | .str l=>(match P.underlying d with
  | some (.slice _)=>ZG P s d l K
  | _=>wc P PS s d (.str l) K)
 | x=>wc P PS s d x K
def uS (P:Program) (t:TypeId) (x:HV) (K:HV→Prop):Prop:=
 match P.underlying t with
 | some (.interface _)=>False
 | some _=>K (.iface t x)
 | none=>False
def vw:Operand→Bool
 | .const (.slice none 0 0)=>true
 | _=>false
/-- A slice against nil:where it is empty,either. -/
def jW (P:Program) (PS:PL) (op:BinOp) (t:TypeId) (x:HV) (K:HV→Prop):Prop:=
 (∃e,P.underlying t=some (.slice e))∧(match x with
  | .imm _ E=>(E=[]→hbt op true K∧hbt op false K)∧(E≠[]→hbt op false K)
  | .sl n ver _ len _=>qM (zA PS n) ver∧(len=0→hbt op true K∧hbt op false K)∧(len≠0→hbt op false K)
  | _=>False)
def jq (P:Program) (PS:PL) (op:BinOp) (t:TypeId) (x:HV) (yo:Operand) (y:HV) (K:HV→Prop):Prop:=
 if vw yo then jW P PS op t x K else qu P PS op t x y K
def vj (P:Program) (b:Builtin) (ts:List TypeId) (xs:List HV) (PS:PL) (K:HV→PL→Prop):Prop:=
 match b,ts,xs with
 | .len,[t],[x]=>hlen P PS t x (fun v=>K v PS)
 | .append,[t,t2],[x,y]=>gR P PS t t2 x y K
 | .copy,[t,_],[x,y]=>kT P PS t x y K
 | .clear,[t],[x]=>kR P PS t x K
 | .delete,t::_,[m,x]=>Zu PS m x K (qA P t)
 | .min,_,xs=>vS false (fun v=>K v PS) xs
 | .max,_,xs=>vS true (fun v=>K v PS) xs
 | _,_,_=>False
/-- What an interface holds,where it is of a type (no interface). -/
def gd (P:Program) (t:TypeId) (ok:Bool) (K:HV→Prop):HV→Prop
 | .iface t' y=>if t'=t then K (if ok then .tup [y,.bool true] else y) else ok=true∧(match (P.info? t).bind (·.zero) with | some z=>K (.tup [zv z,.bool false]) | none=>False)
 | _=>False
def Yf (P:Program) (t:TypeId) (x:HV) (ok:Bool) (K:HV→Prop):Option TypeDesc→Prop
 | none=>False
 | some (.interface _)=>False
 | some _=>gd P t ok K x
/-- A method of a value in an interface:its function,that takes the value itself. -/
def jo (P:Program) (t:TypeId) (nm:String):Option FuncId:=
 match P.info? t with
 | some i=>(match i.methods.find? (·.name == nm) with
  | some m=>if m.path.isEmpty then (match m.func,P.underlying t with
   | some (_,true),some (.pointer _)=>m.func.map (·.1)
   | some (_,true),_=>none
   | some (_,false),some (.pointer _)=>none
   | some (f,false),some _=>some f
   | _,_=>none) else none
  | none=>none)
 | none=>none
def jZ (P:Program) (nm:String) (x:HV) (args:List HV) (PS:PL) (K:HV→PL→Prop):Prop:=
 match x with
 | .iface t y=>(match jo P t nm with
  | some g=>zQ P g=true∧zI P g (y::args) PS K
  | none=>False)
 | _=>False
def hop (P:Program):HOp:=fun o fr PS K=>
 match o.op with
 | .move x=>K (ev fr x) PS
 | .assign x=>K (ev fr x) PS
 | .pick c x y=>vt (ev fr c) (ev fr x) (ev fr y) (fun v=>K v PS)
 | .load t x=>wB PS (ev fr x) (fun v=>K v PS) (tsz P t)
 | .nilCheck x=>wg PS (ev fr x) (fun v=>K v PS)
 | .binOp op t x y _=>jq P PS op t (ev fr x) y (ev fr y) (fun v=>K v PS)
 | .unOp op _ x=>hun op (ev fr x) (fun v=>K v PS)
 | .convert s d x=>wV P PS s d (ev fr x) (fun v=>K v PS)
 | .fieldAddr s x f=>qd PS (ev fr x) (fun v=>K v PS) (yX P s f)
 | .field t x f=>jI P t (ev fr x) f (fun v=>K v PS)
 | .indexAddr t x i=>wi P PS t (ev fr x) (ev fr i) (fun v=>K v PS)
 | .index t x i=>vc P t (ev fr x) (ev fr i) (fun v=>K v PS)
 | .extract x i=>wy (ev fr x) i (fun v=>K v PS)
 | .slice t x l h m=>wm P PS t (ev fr x) (l.map (ev fr)) (h.map (ev fr)) (m.map (ev fr)) (fun v=>K v PS)
 | .build t ps=>uK P t (ps.toList.map fun p=>(p.1,ev fr p.2)) (fun v=>K v PS)
 | .buildSlice t n ps=>vn n (ps.toList.map fun p=>(p.1,ev fr p.2)) (fun v=>K v PS) (yV P t)
 | .makeInterface t x=>uS P t (ev fr x) (fun v=>K v PS)
 | .makeFunc fn f c=>K (.func fn (f.toList.map (ev fr)) (c.toList.map (ev fr))) PS
 | .alloc t=>uY P t PS K
 | .box _ x=>kL (ev fr x) PS K
 | .store t x y=>uI PS (ev fr x) (ev fr y) (fun PS'=>K .junk PS') (tsz P t)
 | .makeSlice t l c=>jr PS (ev fr l) (ev fr c) K (yV P t)
 | .makeMap t none=>ZZ PS K (Yv P t)
 | .lookup t m x ok=>wZ PS (ev fr m) (ev fr x) ok (fun v=>K v PS) (qA P t)
 | .mapUpdate t m x y=>uj PS (ev fr m) (ev fr x) (ev fr y) (fun PS'=>K .junk PS') (qA P t)
 | .range t m=>gD PS (ev fr m) K (qA P t)
 | .next it false=>jA PS (ev fr it) K
 | .entry it=>gJ PS (ev fr it) (fun v=>K v PS)
 | .call ⟨.builtin b,args,ts⟩=>vj P b ts.toList (args.toList.map (ev fr)) PS K
 | .call ⟨.value f,args,_⟩=>uh P (args.toList.map (ev fr)) PS K (wu (ev fr f))
 | .call ⟨.invoke r nm,args,_⟩=>jZ P nm (ev fr r) (args.toList.map (ev fr)) PS K
 | .typeAssert x _ t ok=>Yf P t (ev fr x) ok (fun v=>K v PS) (P.underlying t)
 | _=>False
section
variable {P:Program} {ds:List Deferred} {F:Nat→Prop} {e e0:List Pos} {D D0:Nat→Nat→Prop} {PS PS':PL} {w w0 w':World} {fr:Fr} {a:Act} {o:Oper} {K:HV→PL→Prop} {Q:Exit→Act→World→Prop} {M:Nat→Prop}
theorem zNp {t ty:TypeId} {x:HV} {u:Value} (hr:Rel F e D PS w) (hx:zH (Mut F D) e w x u) (hc:kR P PS t x K):
  ∃z r PS' e' D' w',(Builtin.clear_ #[t] ty #[u]).run P w=.ok r w'∧Rel F e' D' PS' w'∧Tr e D w e' D' w'∧zH (Mut F D') e' w' z r∧K z PS':=by
 unfold kR at hc
 cases hm:yV P t with
 | none=>rw[hm] at hc;exact hc.elim
 | some q=>
  obtain⟨s,b,z⟩:=q
  rw[hm] at hc
  obtain⟨el,ti,zv,hu,hi,hz,rfl,rfl,hzs,hs0,rfl,h1⟩:=YN hm
  obtain⟨ad,c,PS',e',w',rfl,hst,hnone,hrel,htr,hK⟩:=zC7 hr hx (vs:=fun len=>(madeCells zv.cells (len*ti.size)).toList) (fun len=>XS zv.cells hzs hs0 h1 len) (fun len=>by simp) hc
  refine⟨_,.tuple #[],PS',e',D,w',?_,hrel,htr,.tup [] #[] rfl (by simp),hK⟩
  cases ad with
  | none=>
   obtain⟨rfl,h0⟩:=hnone rfl
   simp[Builtin.clear_,run_underlying hu]
  | some a=>
   have hst':=hst P a rfl
   cases hl:vX x with
   | zero=>
    rw[hl] at hst'
    have:(madeCells zv.cells (0*ti.size)).toList=[]:=List.eq_nil_of_length_eq_zero (by simp[size_madeCells])
    rw[this,jX] at hst'
    injection hst' with _ hw
    subst hw
    simp[Builtin.clear_,run_underlying hu]
   | succ n=>
    rw[hl] at hst'
    have hzr:(zeroValue el).run P w=.ok zv w:=by simp[zeroValue,typeInfo,hi,hz]
    have hzc:Builtin.zeroCells zv.cells (n+1)=madeCells zv.cells ((n+1)*ti.size):=by rw[←hzs];rfl
    simp[Builtin.clear_,run_underlying hu,hzr,hzc,hst']
theorem zIR {s d:TypeId} {l:List UInt8} {K:HV→Prop} (hr:Rel F e D PS w) (hc:ZG P s d l K):
  ∃z r w',(convert s d (.string ⟨l.toArray⟩)).run P w=.ok r w'∧Rel F e D PS w'∧Tr e D w e D w'∧zH (Mut F D) e w' z r∧K z:=by
 unfold ZG at hc
 split at hc
 ·rename_i el hd
  obtain⟨hu,he,hle,hK⟩:=hc
  have hrun:=Lib.run_convert_string_bytes w s d el ⟨l.toArray⟩ hu hd he
  have hsz:(⟨l.toArray⟩:ByteArray).size=l.length:=by simp[ByteArray.size]
  have htr:Tr e D w e D (Lib.bytesWorld w el ⟨l.toArray⟩):=⟨rfl,rfl,rfl,by rw[Lib.bytesWorld_size];omega,fun b hb _=>Lib.bytesWorld_at_old w el _ b hb,fun i b h=>.inl ⟨i,h⟩,.refl e⟩
  have hrel:Rel F e D PS (Lib.bytesWorld w el ⟨l.toArray⟩):=
   hr.next htr hr.len (fun i b hb=>⟨(hr.out i b hb).1,by rw[Lib.bytesWorld_size];have:=(hr.out i b hb).2.1;omega,(hr.out i b hb).2.2⟩) hr.apart (fun i q p hq hp=>.inl ⟨hq,hp,fun _=>Iff.rfl,fun b hb=>Lib.bytesWorld_at_old w el _ b (hr.out i b hb).2.1⟩)
  have hnm:¬Mut F D w.heap.size:=by
   rintro (hx | ⟨j,hx⟩)
   ·exact Nat.lt_irrefl _ (hr.fore _ hx)
   ·exact Nat.lt_irrefl _ (hr.out j _ hx).2.1
  have zz:RowsIn (Mut F D) e (Lib.bytesWorld w el ⟨l.toArray⟩) 1 (zD l) (l.map fun b=>Value.int .u8 b.toNat):=
   ⟨by simp[zD],by simp[zD],by simp[Value.oneCell'],fun i r k y hi hk=>by
    simp only[zD,List.getElem?_map] at hi
    cases hb:l[i]? with
    | none=>rw[hb] at hi;cases hi
    | some b=>
     rw[hb] at hi;cases hi
     cases k with
     | zero=>simp at hk;subst hk;exact⟨.int .u8 b.toNat,by simp[hb],.int _ _⟩
     | succ k=>simp at hk⟩
  have hnew:=Lib.bytesWorld_at_new w el ⟨l.toArray⟩
  have hcs:Lib.bytesCells w el ⟨l.toArray⟩=((l.map fun b=>Value.int .u8 b.toNat)++List.replicate (grownCap w l.length 0 el - l.length) (Value.int .u8 0)).toArray:=by
   apply Array.ext'
   simp[Lib.bytesCells,hsz]
  rw[hcs] at hnew
  have hge:=grownCap_ge w l.length 0 el
  have hgm:=grownCap_le_maxLen w l.length 0 el (by simp[maxLen];omega)
  have hv:=zAl (b:=w.heap.size) (c:=grownCap w l.length 0 el) zz hnew hnm false (by simpa [zD] using hge) hgm (by simp)
  rw[hsz] at hrun
  have hbl:(zD l).length=l.length:=by simp[zD]
  rw[hbl] at hv
  exact⟨_,_,_,hrun,hrel,htr,hv,hK⟩
 ·exact hc.elim
theorem Ya (hf:zy (Mut F D) e w fr a.tmps) (x:Option Operand):(∀y v,x.map (ev fr)=some y→x.map a.eval=some v→zH (Mut F D) e w y v)∧(x.map (ev fr)).isSome=(x.map a.eval).isSome:=by
 cases x with
 | none=>exact⟨by simp,rfl⟩
 | some x=>exact⟨by simp;exact zw hf x,rfl⟩
theorem ZE (hf:zy (Mut F D) e w fr a.tmps) (xs:Array Operand):zy (Mut F D) e w (xs.toList.map (ev fr)) (xs.map a.eval):=by
 refine⟨by simp,fun i y v hy hv=>?_⟩
 rw[List.getElem?_map] at hy
 rw[Array.getElem?_map] at hv
 have he:xs.toList[i]? =xs[i]? :=by simp
 rw[he] at hy
 cases hx:xs[i]? with
 | none=>rw[hx] at hy;cases hy
 | some x=>rw[hx] at hy hv;cases hy;cases hv;exact zw hf x
theorem zy.append {f g:Fr} {t u:Array Value} (h:zy M e w f t) (k:zy M e w g u):zy M e w (f++g) (t++u):=by
 refine⟨by simp[h.1,k.1],fun i x v hi hv=>?_⟩
 by_cases hl:i<f.length
 ·rw[List.getElem?_append_left hl] at hi
  rw[Array.getElem?_append_left (by rw[←h.1];exact hl)] at hv
  exact h.2 i x v hi hv
 ·rw[List.getElem?_append_right (by omega)] at hi
  rw[Array.getElem?_append_right (by rw[←h.1];omega),←h.1] at hv
  exact k.2 _ x v hi hv
theorem zAF {g:FuncId} (h:zQ P g=true) (args:Array Value) (w:World):(callFunc g args).run P w=.ok (.enter g args) w:=by
 unfold zQ at h
 cases hg:P.funcs[g]? with
 | none=>rw[hg] at h;cases h
 | some fn=>
  rw[hg] at h
  simp only[Bool.and_eq_true,bne_iff_ne,ne_eq] at h
  have hb:fn.body.isNone=false:=by cases hb:fn.body<;>simp_all
  simp[callFunc,hg,h.1,hb]
  intro hn;rw[hn] at h;simp at h
theorem zAh {x:HV} {u:Value} {g:FuncId} {f c:List HV} (hx:zH M e w x u) (h:wu x=some (g,f,c)):∃fs cs,u=.func (.func g) fs cs∧zy M e w f fs∧zy M e w c cs:=by
 unfold wu at h
 split at h
 ·cases h;cases hx;exact⟨_,_,rfl,⟨rfl,by simp⟩,⟨rfl,by simp⟩⟩
 ·cases h
  cases hx with
  | func fn f c fs cs h1 h2 h3 h4=>exact⟨fs,cs,rfl,⟨h1.symm,h3⟩,⟨h2.symm,h4⟩⟩
 ·cases h
theorem zBS {α β:Type} {f:α→β} {l:List α} {x:β} (h:l.map f=[x]):∃y,l=[y]∧f y=x:=by
 match l,h with
 | [y],h=>exact⟨y,rfl,by simpa using h⟩
theorem Yn {α β:Type} {f:α→β} {l:List α} {x y:β} (h:l.map f=[x,y]):∃x' y',l=[x',y']∧f x'=x∧f y'=y:=by
 match l,h with
 | [x',y'],h=>exact⟨x',y',rfl,by simp at h;exact h.1,by simp at h;exact h.2⟩
theorem zIy (hr:Rel F e D PS w) {op:BinOp} {t:TypeId} {x:HV} {u:Value} {K:HV→Prop} (px py:Operand) (hx:zH (Mut F D) e w x u) (hc:jW P PS op t x K):
  ∃z r,(do eqGuard op t px py u (.slice none 0 0);binOp op t u (.slice none 0 0):Sem Value).run P w=.ok r w∧zH (Mut F D) e w z r∧K z:=by
 obtain⟨⟨el,hu⟩,hc⟩:=hc
 have nn:∀(l c:Nat),hbt op true K→∃z r,(do eqGuard op t px py (.slice none l c) (.slice none 0 0);binOp op t (.slice none l c) (.slice none 0 0):Sem Value).run P w=.ok r w∧zH (Mut F D) e w z r∧K z:=by
  intro l c h
  have he:∀d,(Op.equalIn (d+1) t (.slice none l c) (.slice none 0 0)).run P w=.ok true w:=by
   intro d;simp only[Op.equalIn,Sem.run_bind,run_underlying hu,Result.andThen_ok];rfl
  exact xG px py (vW (by simp) (by simp)) (by simp[binOp,Op.equal,Op.maxDepth,he 9999]) (by simp[binOp,Op.equal,Op.maxDepth,he 9999]) h
 have ss:∀(a:Addr) (l c:Nat),hbt op false K→∃z r,(do eqGuard op t px py (.slice (some a) l c) (.slice none 0 0);binOp op t (.slice (some a) l c) (.slice none 0 0):Sem Value).run P w=.ok r w∧zH (Mut F D) e w z r∧K z:=by
  intro a l c h
  have he:∀d,(Op.equalIn (d+1) t (.slice (some a) l c) (.slice none 0 0)).run P w=.ok false w:=by
   intro d;simp only[Op.equalIn,Sem.run_bind,run_underlying hu,Result.andThen_ok];rfl
  exact xG px py (vW (by simp) (by simp)) (by simp[binOp,Op.equal,Op.maxDepth,he 9999]) (by simp[binOp,Op.equal,Op.maxDepth,he 9999]) h
 have main:∀(a:Option Addr) (l c:Nat),l≤c→(a=none→c=0)→(l=0→hbt op true K∧hbt op false K)→(l≠0→hbt op false K)→
   ∃z r,(do eqGuard op t px py (.slice a l c) (.slice none 0 0);binOp op t (.slice a l c) (.slice none 0 0):Sem Value).run P w=.ok r w∧zH (Mut F D) e w z r∧K z:=by
  intro a l c hlc hn h0 h1
  by_cases hl:l=0
  ·cases a with
   | none=>exact nn l c (h0 hl).1
   | some a=>exact ss a l c (h0 hl).2
  ·cases a with
   | none=>have:=hn rfl;omega
   | some a=>exact ss a l c (h1 hl)
 split at hc
 ·rename_i tt E
  cases hx with
  | imm _ _ a c b o sz val hcc hm ht hn ha hb hsz h1c hcell zT=>
   exact main a _ c hcc hn (fun h=>hc.1 (List.eq_nil_of_length_eq_zero h)) (fun h=>hc.2 (by rintro rfl;exact h rfl))
 ·rename_i n ver i len cp
  obtain⟨hv,h0,h1⟩:=hc
  obtain⟨a,c,rfl,hlc,hn⟩:=zJ2 hr hx hv
  exact main a len c hlc hn h0 h1
 ·exact hc.elim
theorem zJC {xt t:TypeId} {x:HV} {u:Value} {ok:Bool} {K:HV→Prop} (hx:zH M e w x u) (hc:Yf P t x ok K (P.underlying t)):
  ∃z r,(Instr.typeAssert u xt t ok).run P w=.ok r w∧zH M e w z r∧K z:=by
 cases hu:P.underlying t with
 | none=>rw[hu] at hc;exact hc.elim
 | some d=>
  rw[hu] at hc
  have hni:∀q,d≠ .interface q:=by rintro q rfl;exact hc.elim
  have hc':gd P t ok K x:=by
   cases d<;>first | exact hc.elim | exact hc
  clear hc
  unfold gd at hc'
  split at hc'
  ·rename_i t' y
   cases hx with
   | iface _ _ v hv=>
    by_cases ht:t'=t
    ·rw[if_pos ht] at hc'
     have hrun:(Instr.typeAssert (.iface t' v) xt t ok).run P w=.ok (if ok then .tuple #[v,.bool true] else v) w:=by
      unfold Instr.typeAssert
      simp only[Sem.run_bind,run_underlying hu,Result.andThen_ok]
      cases d<;>first | exact absurd rfl (hni _) | (simp only[if_pos ht,Sem.run_pure])
     cases ok
     ·exact⟨y,v,hrun,hv,hc'⟩
     ·refine⟨.tup [y,.bool true],.tuple #[v,.bool true],hrun,.tup _ _ rfl ?_,hc'⟩
      intro i a b ha hb
      rcases i with _ | _ | i
      ·simp at ha hb;subst ha;subst hb;exact hv
      ·simp at ha hb;subst ha;subst hb;exact .bool _
      ·simp at ha
    ·rw[if_neg ht] at hc'
     obtain⟨rfl,hc'⟩:=hc'
     split at hc'
     ·rename_i z hz
      obtain⟨ti,hi,hz'⟩:=Option.bind_eq_some_iff.1 hz
      have hzr:(zeroValue t).run P w=.ok z w:=by simp[zeroValue,typeInfo,hi,hz']
      have hrun:(Instr.typeAssert (.iface t' v) xt t true).run P w=.ok (.tuple #[z,.bool false]) w:=by
       unfold Instr.typeAssert
       simp only[Sem.run_bind,run_underlying hu,Result.andThen_ok]
       cases d<;>first | exact absurd rfl (hni _) | (simp only[if_neg ht,if_true,Sem.run_bind,hzr,Result.andThen_ok,Sem.run_pure])
      refine⟨.tup [zv z,.bool false],.tuple #[z,.bool false],hrun,.tup _ _ rfl ?_,hc'⟩
      intro i a b ha hb
      rcases i with _ | _ | i
      ·simp at ha hb;subst ha;subst hb;exact Qy M e w z
      ·simp at ha hb;subst ha;subst hb;exact .bool _
      ·simp at ha
     ·exact hc'.elim
  ·exact hc'.elim
theorem zNP {t:TypeId} {nm:String} {g:FuncId} (h:jo P t nm=some g) (v:Value) (w:World) (n:Nat):(method (n+1) t v nm).run P w=.ok (g,v) w:=by
 unfold jo at h
 split at h
 ·rename_i i hi
  split at h
  ·rename_i m hm
   split at h
   ·rename_i hp
    have hpn:m.path.toList=[]:=by simpa using hp
    have ht:(typeInfo t).run P w=.ok i w:=by simp[typeInfo,hi]
    unfold method
    simp only[Sem.run_bind,ht,Result.andThen_ok,hm,hpn,follow,Sem.run_pure]
    cases hf:m.func with
    | none=>rw[hf] at h;cases h
    | some q=>
     obtain⟨f,b⟩:=q
     rw[hf] at h
     cases hu:P.underlying t with
     | none=>rw[hu] at h;cases b<;>cases h
     | some d=>
      rw[hu] at h
      cases b<;>cases d<;>simp only[Option.map_some,Option.some.injEq,reduceCtorEq] at h<;>subst h<;>simp[receiverAt,run_underlying hu,Place.get]
   ·cases h
  ·cases h
 ·cases h
theorem UN:gM P (hop P):=by
 intro o fr PS K ds F e0 D0 w0 a w Q hc hst
 have hst0:=hst
 obtain⟨hd,e,D,hr,hf,ht⟩:=hst
 obtain⟨dst,op,ty,pos,after,guard⟩:=o
 have val:∀{y:HV} {v:Value},(execOp a.eval ⟨dst,op,ty,pos,after,guard⟩).run P w=.ok (.value v) w→zH (Mut F D) e w y v→K y PS→
   (⟨dst,op,ty,pos,after,guard⟩:Oper).wp P a w (fun a' w'=>∃v PS',K v PS'∧St ds F e0 D0 w0 (zV fr dst v) PS' a' w') Q:=
  fun h1 h2 h3=>uR hd hf ht h1 hr (.refl _ _ _) h2 h3
 cases op with
 | move x=>exact val (by simp[execOp]) (zw hf x) hc
 | assign x=>exact val (by simp[execOp]) (zw hf x) hc
 | pick c x y=>
  have hcv:=zw hf c
  simp only[hop] at hc
  generalize ev fr c=cv at hc hcv
  generalize hce:a.eval c=u at hcv
  cases cv with
  | bool b=>
   cases hcv
   cases b
   ·exact val (by simp[execOp,hce,asBool]) (zw hf y) (hc.2 rfl)
   ·exact val (by simp[execOp,hce,asBool]) (zw hf x) (hc.1 rfl)
  | _=>exact hc.elim
 | load t x=>
  obtain⟨y,v,h1,h2,h3⟩:=zEK (P:=P) (t:=t) (K:=fun v=>K v PS) hr (zw hf x) hc
  exact val (by simp[execOp,h1]) h2 h3
 | nilCheck x=>
  obtain⟨y,v,h1,h2,h3⟩:=zI0 (P:=P) (K:=fun v=>K v PS) hr (zw hf x) hc a.eval ⟨dst,.nilCheck x,ty,pos,after,guard⟩ x rfl rfl
  exact val h1 h2 h3
 | binOp op t x y t2=>
  have:∃z r,(do eqGuard op t x y (a.eval x) (a.eval y);binOp op t (a.eval x) (a.eval y):Sem Value).run P w=.ok r w∧zH (Mut F D) e w z r∧K z PS:=by
   simp only[hop,jq] at hc
   split at hc
   ·rename_i hy
    unfold vw at hy
    split at hy
    ·exact zIy hr x _ (zw hf x) hc
    ·cases hy
   ·exact zIL (P:=P) (K:=fun v=>K v PS) hr x y (zw hf x) (zw hf y) hc
  obtain⟨z,v,h1,h2,h3⟩:=this
  exact val (by simp only[execOp];rw[Sem.run_bind,h1];simp) h2 h3
 | unOp op t x=>
  obtain⟨y,v,h1,h2,h3⟩:=zH1 (P:=P) (K:=fun v=>K v PS) (zw hf x) hc
  exact val (by simp[execOp,h1]) h2 h3
 | convert s d x=>
  have hx:=zw hf x
  simp only[hop] at hc
  generalize ev fr x=xv at hc hx
  have main:wc P PS s d xv (fun v=>K v PS)→(⟨dst,.convert s d x,ty,pos,after,guard⟩:Oper).wp P a w (fun a' w'=>∃v PS',K v PS'∧St ds F e0 D0 w0 (zV fr dst v) PS' a' w') Q:=fun hc=>by
   obtain⟨y,v,h1,h2,h3⟩:=zKc (P:=P) (K:=fun v=>K v PS) hr hx hc
   exact val (by simp[execOp,h1]) h2 h3
  unfold wV at hc
  split at hc
  ·rename_i l
   split at hc
   ·rename_i el hd2
    generalize hxe:a.eval x=u at hx
    cases hx
    obtain⟨z,r,w',h1,h2,h3,h4,h5⟩:=zIR (K:=fun v=>K v PS) hr hc
    exact uR hd hf ht (by simp[execOp,hxe,h1]) h2 h3 h4 h5
   ·exact main hc
  ·exact main hc
 | fieldAddr s x f=>
  obtain⟨y,v,h1,h2,h3⟩:=zMw (P:=P) (t:=s) (f:=f) (K:=fun v=>K v PS) hr (zw hf x) hc
  exact val (by simp[execOp,h1]) h2 h3
 | field t x f=>
  obtain⟨y,v,h1,h2,h3⟩:=zMO (P:=P) (K:=fun v=>K v PS) (zw hf x) hc
  exact val (by simp[execOp,h1]) h2 h3
 | indexAddr t x i=>
  obtain⟨y,v,h1,h2,h3⟩:=zQ9 (P:=P) (K:=fun v=>K v PS) hr (zw hf x) (zw hf i) hc
  exact val (by simp[execOp,h1]) h2 h3
 | index t x i=>
  obtain⟨y,v,h1,h2,h3⟩:=zRY (P:=P) (K:=fun v=>K v PS) (zw hf x) (zw hf i) hc
  exact val (by simp[execOp,h1]) h2 h3
 | extract x i=>
  obtain⟨y,v,h1,h2,h3⟩:=zN5 (P:=P) (K:=fun v=>K v PS) (zw hf x) hc
  exact val (by simp[execOp,h1]) h2 h3
 | slice t x l h m=>
  obtain⟨y,v,h1,h2,h3⟩:=zLN (P:=P) (K:=fun v=>K v PS) hr (zw hf x) (Ya hf l).1 (Ya hf l).2 (Ya hf h).1 (Ya hf h).2 (Ya hf m).1 (Ya hf m).2 hc
  exact val (by simp[execOp,h1]) h2 h3
 | build t ps=>
  obtain⟨y,v,h1,h2,h3⟩:=zO6 (P:=P) (w:=w) (M:=Mut F D) (e:=e) (t:=t) (K:=fun v=>K v PS) (ps:=ps.toList.map fun(p:Nat×Operand)=>(p.1,ev fr p.2)) (vs:=ps.map fun p=>(p.1,a.eval p.2)) (by simp) (by
   intro j p q hp hq
   rw[List.getElem?_map] at hp
   rw[Array.getElem?_map] at hq
   have he:ps.toList[j]? =ps[j]? :=by simp
   rw[he] at hp
   cases hx:ps[j]? with
   | none=>rw[hx] at hp;cases hp
   | some y=>rw[hx] at hp hq;cases hp;cases hq;exact⟨rfl,zw hf y.2⟩) hc
  exact val (by simp[execOp,h1]) h2 h3
 | buildSlice t n ps=>exact zOV rfl hst0 hc
 | makeInterface t x=>
  simp only[hop,uS] at hc
  split at hc
  ·exact hc.elim
  ·rename_i d hn hu
   refine val (y:=.iface t (ev fr x)) (v:=.iface t (a.eval x)) ?_ (.iface t _ _ (zw hf x)) hc
   cases d<;>simp[execOp,Instr.makeInterface,run_underlying hu]<;>simp_all
  ·exact hc.elim
 | makeFunc fn f c=>
  exact val (v:=.func fn (f.map a.eval) (c.map a.eval)) (by simp[execOp,Instr.makeFunc]) (.func fn _ _ _ _ (ZE hf f).1.symm (ZE hf c).1.symm (ZE hf f).2 (ZE hf c).2) hc
 | alloc t=>exact zQd rfl hst0 hc
 | box t x=>exact zGs rfl hst0 hc
 | store t x y=>exact zPF rfl hst0 hc
 | makeSlice t l c=>exact zQ0 rfl hst0 hc
 | makeMap t r=>
  cases r with
  | some r=>exact hc.elim
  | none=>
   obtain⟨y,v,PS',e',D',w',h1,h2,h3,h4,h5⟩:=zJL (P:=P) (t:=t) (K:=K) hr hc
   exact uR hd hf ht (by simp only[execOp,Option.map_none,Sem.run_bind,h1,Result.andThen_ok,Sem.run_pure]) h2 h3 h4 h5
 | lookup t m x ok=>
  obtain⟨y,v,h1,h2,h3⟩:=zLx (P:=P) (t:=t) (ok:=ok) (K:=fun v=>K v PS) hr (zw hf m) (zw hf x) hc
  exact val (by simp[execOp,h1]) h2 h3
 | mapUpdate t m x y=>
  obtain⟨PS',w',h1,h2,h3,h4⟩:=zGN (P:=P) (t:=t) (K:=fun PS'=>K .junk PS') hr (zw hf m) (zw hf x) (zw hf y) hc
  exact zDF hd hf ht (by simp[execOp,h1]) h2 h3 h4
 | range t m=>
  obtain⟨y,v,PS',e',D',w',h1,h2,h3,h4,h5⟩:=zLI (P:=P) (t:=t) (K:=K) hr (zw hf m) hc
  exact uR hd hf ht (by simp[execOp,h1]) h2 h3 h4 h5
 | next it str=>
  cases str with
  | true=>exact hc.elim
  | false=>
   obtain⟨y,v,PS',w',h1,h2,h3,h4,h5⟩:=zHa (P:=P) (ty:=ty) (K:=K) hr (zw hf it) hc
   exact uR hd hf ht (by simp[execOp,h1]) h2 h3 h4 h5
 | entry it=>
  obtain⟨y,v,h1,h2,h3⟩:=zRj (P:=P) (K:=fun v=>K v PS) hr (zw hf it) hc
  exact val (by simp[execOp,h1]) h2 h3
 | call c=>
  obtain⟨callee,args,ts⟩:=c
  cases callee with
  | builtin b=>
   obtain⟨args⟩:=args
   obtain⟨ts⟩:=ts
   simp only[hop] at hc
   have fin:∀(s:Sem Value) {z:HV} {r:Value} {PS':PL} {e':List Pos} {D':Nat→Nat→Prop} {w':World},(∀consts,builtin b ⟨ts⟩ ty consts (args.map a.eval).toArray=(do pure (.value (←s)):Sem Next))→
     s.run P w=.ok r w'→Rel F e' D' PS' w'→Tr e D w e' D' w'→zH (Mut F D') e' w' z r→K z PS'→(⟨dst,.call ⟨.builtin b,⟨args⟩,⟨ts⟩⟩,ty,pos,after,guard⟩:Oper).wp P a w (fun a' w'=>∃v PS',K v PS'∧St ds F e0 D0 w0 (zV fr dst v) PS' a' w') Q:=by
    intro s z r PS' e' D' w' h0 h1 h2 h3 h4 h5
    refine uR hd hf ht ?_ h2 h3 h4 h5
    have:∃consts,(execOp a.eval ⟨dst,.call ⟨.builtin b,⟨args⟩,⟨ts⟩⟩,ty,pos,after,guard⟩)=builtin b ⟨ts⟩ ty consts (args.map a.eval).toArray:=
     ⟨_,by simp[execOp,resolve,invoke,bind,Sem.bind,pure];rfl⟩
    obtain⟨consts,this⟩:=this
    rw[this,h0,Sem.run_bind,h1]
    simp
   unfold vj at hc
   split at hc
   ·rename_i t x hx
    obtain⟨y,rfl,rfl⟩:=zBS hx
    obtain⟨z,r,h1,h2,h3⟩:=zHT (P:=P) (t:=t) (ty:=ty) (K:=fun v=>K v PS) hr (zw hf y) hc
    exact fin _ (fun _=>rfl) h1 hr (.refl _ _ _) h2 h3
   ·rename_i t t2 x y hx
    obtain⟨x',y',rfl,rfl,rfl⟩:=Yn hx
    obtain⟨z,r,PS',e',D',w',h1,h2,h3,h4,h5⟩:=zBE (P:=P) (t:=t) (t2:=t2) (ty:=ty) (K:=K) hr (zw hf x') (zw hf y') hc
    exact fin _ (fun _=>rfl) h1 h2 h3 h4 h5
   ·rename_i t t2 x y hx
    obtain⟨x',y',rfl,rfl,rfl⟩:=Yn hx
    obtain⟨z,r,PS',e',D',w',h1,h2,h3,h4,h5⟩:=zKj (P:=P) (t:=t) (t2:=t2) (ty:=ty) (K:=K) hr (zw hf x') (zw hf y') hc
    exact fin _ (fun _=>rfl) h1 h2 h3 h4 h5
   ·rename_i t x hx
    obtain⟨x',rfl,rfl⟩:=zBS hx
    obtain⟨z,r,PS',e',D',w',h1,h2,h3,h4,h5⟩:=zNp (P:=P) (t:=t) (ty:=ty) (K:=K) hr (zw hf x') hc
    exact fin _ (fun _=>rfl) h1 h2 h3 h4 h5
   ·rename_i t ts0 x y hx
    obtain⟨x',y',rfl,rfl,rfl⟩:=Yn hx
    obtain⟨PS',w',h1,h2,h3,h4⟩:=zMS (P:=P) (t:=t) (ty:=ty) (ts:=⟨t::ts0⟩) (K:=K) hr (by simp) (zw hf x') (zw hf y') hc
    exact fin _ (fun _=>rfl) h1 h2 h3 (.tup [] #[] rfl (by simp)) h4
   ·have hmm:∃k p q x y,args=[x,y]∧a.eval x=.int k p∧a.eval y=.int k q∧K (.int k (if q<p then q else p)) PS:=by
     unfold vS at hc
     split at hc
     ·rename_i k p k' q hx
      obtain⟨rfl,h⟩:=hc
      obtain⟨x,y,rfl,hx1,hy1⟩:=Yn hx
      have h1:=zw hf x
      have h2:=zw hf y
      rw[hx1] at h1;rw[hy1] at h2
      generalize hu:a.eval x=u at h1
      generalize hv:a.eval y=v at h2
      cases h1;cases h2
      exact⟨_,_,_,x,y,rfl,hu,hv,by simpa using h⟩
     ·exact hc.elim
    obtain⟨k,p,q,x,y,rfl,h1,h2,hK⟩:=hmm
    exact fin _ (z:=.int k (if q<p then q else p)) (r:=.int k (if q<p then q else p)) (fun _=>rfl) (by simp[Builtin.min_,Builtin.min2,h1,h2]) hr (.refl _ _ _) (.int _ _) hK
   ·have hmm:∃k p q x y,args=[x,y]∧a.eval x=.int k p∧a.eval y=.int k q∧K (.int k (if q>p then q else p)) PS:=by
     unfold vS at hc
     split at hc
     ·rename_i k p k' q hx
      obtain⟨rfl,h⟩:=hc
      obtain⟨x,y,rfl,hx1,hy1⟩:=Yn hx
      have h1:=zw hf x
      have h2:=zw hf y
      rw[hx1] at h1;rw[hy1] at h2
      generalize hu:a.eval x=u at h1
      generalize hv:a.eval y=v at h2
      cases h1;cases h2
      exact⟨_,_,_,x,y,rfl,hu,hv,by simpa using h⟩
     ·exact hc.elim
    obtain⟨k,p,q,x,y,rfl,h1,h2,hK⟩:=hmm
    exact fin _ (z:=.int k (if q>p then q else p)) (r:=.int k (if q>p then q else p)) (fun _=>rfl) (by simp[Builtin.max_,Builtin.max2,h1,h2]) hr (.refl _ _ _) (.int _ _) hK
   ·exact hc.elim
  | value f=>
   simp only[hop] at hc
   cases hfn:wu (ev fr f) with
   | none=>rw[hfn] at hc;exact hc.elim
   | some q=>
    obtain⟨g,f1,c1⟩:=q
    rw[hfn] at hc
    obtain⟨hcl,hcall⟩:=hc
    obtain⟨fs,cs,hfe,hfs,hcs⟩:=zAh (zw hf f) hfn
    have hrun:(execOp a.eval ⟨dst,.call ⟨.value f,args,ts⟩,ty,pos,after,guard⟩).run P w=.ok (.enter g (fs++args.map a.eval++cs)) w:=by
     simp[execOp,resolve,hfe,Deferred.ofValue,invoke,zAF hcl]
    unfold Oper.wp
    rw[hrun,Oper.upon_enter]
    have:=hcall F e D w (fs++args.map a.eval++cs) hr (by rw[Array.append_assoc];exact hfs.append ((ZE hf args).append hcs))
    refine this.mono ?_
    rintro en w' ⟨v,x,PS',e',D',rfl,hK,hr',ht',hv⟩
    refine⟨x,PS',hK,?_,e',D',hr',hf.Xe ht' hv,ht.trans ht'⟩
    cases dst<;>exact hd
  | invoke r nm=>
   simp only[hop] at hc
   have hx:=zw hf r
   unfold jZ at hc
   split at hc
   ·rename_i t y hxe
    rw[hxe] at hx
    generalize hre:a.eval r=u at hx
    cases hx with
    | iface _ _ v hv=>
     split at hc
     ·rename_i g hg
      obtain⟨hcl,hcall⟩:=hc
      have hrun:(execOp a.eval ⟨dst,.call ⟨.invoke r nm,args,ts⟩,ty,pos,after,guard⟩).run P w=.ok (.enter g (#[v]++args.map a.eval)) w:=by
       have hm:=zNP hg v w (P.types.size+Made.depth - 1)
       have hd0:0<Made.depth:=by decide
       have hd1:P.types.size+Made.depth - 1+1=P.types.size+Made.depth:=by omega
       rw[hd1] at hm
       have hx0:(#[Value.iface t v]++args.map a.eval)[0]? =some (.iface t v):=by rw[Array.getElem?_append_left (by simp)];rfl
       have hx1:(#[Value.iface t v]++args.map a.eval).extract 1 (#[Value.iface t v]++args.map a.eval).size=args.map a.eval:=by
        apply Array.ext'
        simp[List.take_of_length_le]
       simp only[execOp,resolve,hre,Sem.run_bind,Sem.run_pure,Result.andThen_ok,invoke,hx0,hx1,callMethod,run_program,hm,zAF hcl]
      unfold Oper.wp
      rw[hrun,Oper.upon_enter]
      have:=hcall F e D w (#[v]++args.map a.eval) hr (zy.append (f:=[y]) (t:=#[v]) ⟨rfl,fun i b c hb hc=>by
       rcases i with _ | i
       ·simp at hb hc;subst hb;subst hc;exact hv
       ·simp at hb⟩ (ZE hf args))
      refine this.mono ?_
      rintro en w' ⟨v,x,PS',e',D',rfl,hK,hr',ht',hv⟩
      refine⟨x,PS',hK,?_,e',D',hr',hf.Xe ht' hv,ht.trans ht'⟩
      cases dst<;>exact hd
     ·exact hc.elim
   ·exact hc.elim
 | typeAssert x xt t ok=>
  obtain⟨y,v,h1,h2,h3⟩:=zJC (P:=P) (xt:=xt) (K:=fun v=>K v PS) (zw hf x) hc
  exact val (by simp[execOp,h1]) h2 h3
 | _=>exact hc.elim
end
end Go.Eng
