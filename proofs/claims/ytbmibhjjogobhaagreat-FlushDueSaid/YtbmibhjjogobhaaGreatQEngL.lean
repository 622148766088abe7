/-
Strings as bytes, append, copy.
No conditions.
-/
import Derived.Test.YtbmibhjjogobhaaGreatQEngK
import Derived.Lib.ConvBytes
set_option linter.unusedSectionVars false
set_option linter.unusedSimpArgs false
set_option linter.unusedVariables false
namespace Go.Eng
open Go
variable [zB]
def zD (l:List UInt8):List (List HV):=l.map fun b=>[HV.int .u8 b.toNat]
def yA (PS:PL) (s:Nat) (x:HV) (K:List (List HV)→Prop):Prop:=
 match x with
 | .str l=>s=1∧K (zD l)
 | x=>zz PS s x K
def uG (P:Program) (t:TypeId):Prop:=
 match P.underlying t with
 | some (.slice _)=>True
 | some .string=>True
 | _=>False
def zr (n b:Nat):Prop:=n≤140737488355328∧n*b≤140737488355328
def qa (PS:PL) (s b:Nat) (x:HV) (N:List (List HV)) (K:HV→PL→Prop):Prop:=
 match x with
 | .imm t E=>t=true∧(E=[]∨0<N.length)∧(∀r∈E,r.length=s)∧zr (E.length+N.length) b∧K (.sl PS.length 0 0 (E.length+N.length) none) (PS++[.arr 0 s (E++N) true])
 | .sl n ver i len none=>(match zA PS n with
  | .arr ver' sz E opn=>ver=ver'∧sz=s∧((i+len=E.length∧zr (len+N.length) b∧K (.sl n (ver+1) 0 (len+N.length) none) (PS.set n (.arr (ver+1) s (E.drop i++N) true)))∨
    (i+len<E.length∧i+len+N.length≤E.length∧K (.sl n ver i (len+N.length) none) (PS.set n (.arr ver s (zP (i+len) N E) opn))))
  | _=>False)
 | .sl n ver i len (some c)=>(match zA PS n with
  | .arr ver' sz E opn=>ver=ver'∧sz=s∧opn=false∧i+c=E.length∧len+N.length≤c∧K (.sl n ver i (len+N.length) (some c)) (PS.set n (.arr ver s (zP (i+len) N E) opn))
  | _=>False)
 | _=>False
def xo (P:Program) (t:TypeId):Bool:=
 match P.underlying t with
 | some (.int _)=>true
 | _=>false
/-- What is appended:rows,or so many of zero. -/
def uf (PS:PL) (x:HV) (A B:Prop) (K:HV→PL→Prop) (s b:Nat) (z:List HV):HV→Prop
 | .int .i64 n=>B∧0≤n∧n≤65536∧n.toNat*b≤140737488355328∧qa PS s b x (List.replicate n.toNat z) K
 | y=>A∧yA PS s y fun N=>qa PS s b x N K
def gR (P:Program) (PS:PL) (t t2:TypeId) (x y:HV) (K:HV→PL→Prop):Prop:=
 match yV P t with
 | some (s,b,z)=>uf PS x (uG P t2) (xo P t2=true) K s b z y
 | none=>False
section
variable {P:Program} {ds:List Deferred} {F:Nat→Prop} {e e0:List Pos} {D D0:Nat→Nat→Prop} {PS PS':PL} {w w0 w':World} {fr:Fr} {a:Act} {o:Oper} {K:HV→PL→Prop} {Q:Exit→Act→World→Prop} {M:Nat→Prop}
/-- A slice or a string as a source of cells. -/
structure Src (P:Program) (M:Nat→Prop) (e:List Pos) (w:World) (s:Nat) (N:List (List HV)) (vs:List Value) (u:Value):Prop where
 rows:RowsIn M e w s N vs
 len:∀w':World,(Builtin.lenOf u).run P w'=.ok N.length w'
 first:∀(w':World) (n:Nat),w'.heap=w.heap→n≤N.length→(Builtin.firstCells s n u).run P w'=.ok (vs.take (n*s)).toArray w'
theorem Gl {w w':World} (h:w'.heap=w.heap) (a:Addr):w'.cell? a=w.cell? a:=by simp[World.cell?,h]
theorem Qn (h:Rel F e D PS w) {s:Nat} {x:HV} {u:Value} {K:List (List HV)→Prop} (hx:zH (Mut F D) e w x u) (hc:yA PS s x K):
  ∃N vs,K N∧Src P (Mut F D) e w s N vs u:=by
 have main:zz PS s x K→∃N vs,K N∧Src P (Mut F D) e w s N vs u:=by
  intro hc
  obtain⟨E,a,c,vs,rfl,hK,hsz,hlen,hcell,h1,hrel⟩:=zAH h hx hc
  refine⟨E,vs,hK,⟨hlen,hsz,h1,hrel⟩,fun w'=>rfl,fun w' n hw hn=>?_⟩
  have hnl:n*s≤vs.length:=by rw[hlen];exact Nat.mul_le_mul_right _ hn
  cases a with
  | none=>
   have:vs=[]:=by
    cases vs with
    | nil=>rfl
    | cons v vs=>obtain⟨ad,h1,_⟩:=hcell 0 v rfl;cases h1
   subst this
   simp[Builtin.firstCells]
  | some a=>
   have:=run_loadCells_list (P:=P) w' a (vs.take (n*s)) (fun j v hv=>by
    rw[List.getElem?_take] at hv
    split at hv
    ·obtain⟨ad,h1,h2⟩:=hcell j v hv;cases h1;rw[Gl hw];exact h2
    ·cases hv)
   rw[List.length_take,Nat.min_eq_left hnl] at this
   simpa [Builtin.firstCells] using this
 cases x with
 | str l=>
  obtain⟨rfl,hK⟩:=hc
  cases hx
  have hs:(⟨l.toArray⟩:ByteArray).size=l.length:=by simp[ByteArray.size]
  refine⟨_,l.map fun b=>Value.int .u8 b.toNat,hK,⟨by simp[zD],by simp[zD],by simp[Value.oneCell'],fun i r k y hi hk=>?_⟩,fun w'=>by simp[Builtin.lenOf,hs,zD],fun w' n hw hn=>?_⟩
  ·simp only[zD,List.getElem?_map] at hi
   cases hb:l[i]? with
   | none=>rw[hb] at hi;cases hi
   | some b=>
    rw[hb] at hi;cases hi
    cases k with
    | zero=>simp at hk;subst hk;exact⟨.int .u8 b.toNat,by simp[hb],.int _ _⟩
    | succ k=>simp at hk
  ·simp only[Builtin.firstCells,Sem.run_pure,Nat.mul_one]
   congr 1
   apply Array.ext'
   simp[ByteArray.data_extract,List.map_take]
 | _=>exact main hc
theorem Jt {t:TypeId} (h:uG P t):(∃e',P.underlying t=some (.slice e'))∨P.underlying t=some .string:=by
 unfold uG at h
 split at h
 ·rename_i e' hu;exact .inl ⟨e',hu⟩
 ·rename_i hu;exact .inr hu
 ·exact h.elim
/-- A source of what is appended. -/
structure Wg (P:Program) (M:Nat→Prop) (e:List Pos) (w:World) (t2:TypeId) (i:TypeInfo) (z:Value) (N:List (List HV)) (vs:List Value) (u:Value):Prop where
 rows:RowsIn M e w i.size N vs
 src:(uG P t2∧Src P M e w i.size N vs u)∨(xo P t2=true∧∃n:Nat,u=.int .i64 n∧N.length=n∧n≤65536∧n*i.bytes≤140737488355328∧z.cells.size=i.size∧vs=(Builtin.zeroCells z.cells n).toList)
theorem zCH {t:TypeId} (h:xo P t=true):∃k,P.underlying t=some (.int k):=by
 unfold xo at h
 split at h
 ·rename_i k hk;exact⟨k,hk⟩
 ·cases h
theorem Qa {i:TypeInfo} {z:Value} {n:Nat} (hz:z.cells.size=i.size) (h:n*i.size=0):Builtin.zeroCells z.cells n=#[]:=by
 apply Array.eq_empty_of_size_eq_zero
 rw[size_zeroCells,hz,h]
theorem xm {t t2 ty el:TypeId} {i:TypeInfo} {z:Value} {N:List (List HV)} {vs:List Value} {u:Value} (hu:P.underlying t=some (.slice el)) (hi:P.info? el=some i) (hz:i.zero=some z) (hs:Wg P M e w t2 i z N vs u)
  {base:Option Addr} {len cap:Nat} (hr:len+N.length≤cap) {w':World} (hst:∀ad,base=some ad→(storeCells (ad.add (len*i.size)) vs).run P w=.ok () w') (hn:base=none→w'=w):
  (Builtin.append_ #[t,t2] ty #[.slice base len cap,u]).run P w=.ok (.slice base (len+N.length) cap) w':=by
 obtain⟨zz,⟨h2,hs⟩ | ⟨h2,n,rfl,hl,hle,hb,hzs,rfl⟩⟩:=hs
 ·have hf:=hs.first w N.length rfl (Nat.le_refl _)
  rw[←hs.rows.len,List.take_length] at hf
  have hl:=hs.len w
  cases base with
  | none=>
   obtain rfl:=hn rfl
   rcases Jt h2 with ⟨e',hd⟩ | hd<;>simp[Builtin.append_,run_underlying hu,qC hi,run_underlying hd,hl,hr,hf]
  | some ad=>
   rcases Jt h2 with ⟨e',hd⟩ | hd<;>simp[Builtin.append_,run_underlying hu,qC hi,run_underlying hd,hl,hr,hf,hst ad rfl]
 ·obtain⟨k,hd⟩:=zCH h2
  subst hl
  have hw:IntKind.i64.wrap (N.length:Int)=N.length:=wrap_i64 ⟨by omega,by omega⟩
  have hneg:¬((N.length:Int)<0):=by omega
  have hai:∀w:World,(asInt (.int .i64 (N.length:Int))).run P w=.ok (N.length:Int) w:=fun w=>by simp[asInt,asIntOf]
  have hb':=Int.ofNat_le.2 hb
  rw[Int.natCast_mul] at hb'
  have hbig:¬(281474976710656<(N.length:Int)*(i.bytes:Int)):=by omega
  have hap:∀w:World,(if N.length*i.size=0 then (Sem.run P (pure #[]) w:Result (Array Value)) else .ok (Builtin.zeroCells z.cells N.length) w)=.ok (Builtin.zeroCells z.cells N.length) w:=by
   intro w
   by_cases h0:N.length*i.size=0
   ·rw[if_pos h0,Qa hzs h0];rfl
   ·rw[if_neg h0]
  simp only[Sem.run_pure] at hap
  cases base with
  | none=>
   obtain rfl:=hn rfl
   simp[Builtin.append_,run_underlying hu,qC hi,run_underlying hd,hai,hw,hneg,typeInfo,zeroValue,hi,hz,hbig,hr,hap]
  | some ad=>
   have:=hst ad rfl
   by_cases h0:N.length*i.size=0
   ·rw[Qa hzs h0] at this
    simp only[Array.toList_empty] at this
    simp[Builtin.append_,run_underlying hu,qC hi,run_underlying hd,hai,hw,hneg,typeInfo,zeroValue,hi,hz,hbig,hr,h0,this]
   ·simp[Builtin.append_,run_underlying hu,qC hi,run_underlying hd,hai,hw,hneg,typeInfo,zeroValue,hi,hz,hbig,hr,h0,this]
theorem zM5 {t t2 ty el:TypeId} {i:TypeInfo} {z:Value} {N:List (List HV)} {vs olds:List Value} {u:Value} (hu:P.underlying t=some (.slice el)) (hi:P.info? el=some i) (hz:i.zero=some z) (hs:Wg P M e w t2 i z N vs u)
  {base:Option Addr} {len cap:Nat} (hr:cap<len+N.length) (h63:len+N.length≤maxLen) (hb:(len+N.length)*i.bytes≤140737488355328) (ho:(Builtin.firstCells i.size len (.slice base len cap)).run P w.drew=.ok olds.toArray w.drew):
  (Builtin.append_ #[t,t2] ty #[.slice base len cap,u]).run P w=.ok (.slice (some ⟨w.heap.size,0,none⟩) (len+N.length) (grownCap w (len+N.length) cap el))
   (w.drew.alloc (.cells (olds++vs++(Builtin.zeroCells z.cells (grownCap w (len+N.length) cap el - (len+N.length))).toList).toArray el)):=by
 have hn:¬(len+N.length≤cap):=by omega
 have h63':¬(9223372036854775807<((len:Int)+(N.length:Int))):=by simp only[maxLen] at h63;omega
 have h48:=growslice_fits hr hb
 have h48':¬(281474976710656<Builtin.nextslicecap (len+N.length) cap*i.bytes):=by omega
 obtain⟨zz,⟨h2,hs⟩ | ⟨h2,n,rfl,hl,hle,hbn,hzs,rfl⟩⟩:=hs
 ·have hf:=hs.first w.drew N.length rfl (Nat.le_refl _)
  rw[←hs.rows.len,List.take_length] at hf
  have hl:=hs.len w
  rcases Jt h2 with ⟨e',hd⟩ | hd<;>simp[Builtin.append_,run_underlying hu,qC hi,run_underlying hd,hl,typeInfo,zeroValue,hi,hz,hn,h63',h48',Question.forced,hf,ho,newRow,grownCap]
  all_goals (congr 2;apply Array.ext';simp)
 ·obtain⟨k,hd⟩:=zCH h2
  subst hl
  have hw:IntKind.i64.wrap (N.length:Int)=N.length:=wrap_i64 ⟨by omega,by omega⟩
  have hneg:¬((N.length:Int)<0):=by omega
  have hai:∀w:World,(asInt (.int .i64 (N.length:Int))).run P w=.ok (N.length:Int) w:=fun w=>by simp[asInt,asIntOf]
  have hb':=Int.ofNat_le.2 hbn
  rw[Int.natCast_mul] at hb'
  have hbig:¬(281474976710656<(N.length:Int)*(i.bytes:Int)):=by omega
  by_cases h0:N.length*i.size=0
  ·have hz0:=Qa hzs h0
   simp[Builtin.append_,run_underlying hu,qC hi,run_underlying hd,hai,hw,hneg,typeInfo,zeroValue,hi,hz,hbig,h0,hz0,hn,h63',h48',Question.forced,ho,newRow,grownCap]
   all_goals (congr 2;apply Array.ext';simp)
  ·simp[Builtin.append_,run_underlying hu,qC hi,run_underlying hd,hai,hw,hneg,typeInfo,zeroValue,hi,hz,hbig,h0,hn,h63',h48',Question.forced,ho,newRow,grownCap]
   all_goals (congr 2;apply Array.ext';simp)
theorem Tr.drew (w:World):Tr e D w e D w.drew:=Tr.same rfl rfl rfl rfl
/-- The world behind a growing append. -/
theorem Vd (h:Rel F e D PS w):Rel F e D PS w.drew:=h.same rfl rfl rfl rfl
theorem Rel.zCe (h:Rel F e D PS w) (s:Nat):Rel F (e++[⟨0,.nil⟩]) D (PS++[.arr 0 s [] true]) w∧Tr e D w (e++[⟨0,.nil⟩]) D w:=by
 have ht:Tr e D w (e++[⟨0,.nil⟩]) D w:=⟨rfl,rfl,rfl,Nat.le_refl _,fun _ _ _=>rfl,fun i b h=>.inl ⟨i,h⟩,qv.snoc _ _⟩
 refine⟨h.next ht (by simp[h.len]) (fun i b hb=>?_) h.apart (fun i q p hq hp=>?_),ht⟩
 ·have:=h.out i b hb;exact⟨by simp;omega,this.2⟩
 ·by_cases hi:i<PS.length
  ·left
   rw[List.getElem?_append_left hi] at hq
   rw[List.getElem?_append_left (by rw[h.len];exact hi)] at hp
   exact⟨hq,hp,fun _=>Iff.rfl,fun _ _=>rfl⟩
  ·right
   have hi':i=PS.length:=by
    have:i<(PS++[zC.arr 0 s [] true]).length:=by
     rcases Nat.lt_or_ge i (PS++[zC.arr 0 s [] true]).length with h' | h'
     ·exact h'
     ·rw[List.getElem?_eq_none h'] at hq;cases hq
    simp at this;omega
   subst hi'
   simp at hq
   rw[←h.len] at hp
   simp at hp
   subst hq;subst hp
   exact⟨rfl,rfl,rfl,fun b hb=>Nat.lt_irrefl _ (h.out _ _ hb).1⟩
theorem Rel.zRo (h:Rel F e D PS w) {n ver sz:Nat} {opn:Bool} {p:Pos} (hq:zA PS n=.arr ver sz [] opn) (hp:e[n]? =some p) (hpv:p.ver=ver) (hk:p.kind=.nil) (s:Nat):
  Rel F (e.set n ⟨ver+1,.nil⟩) D (PS.set n (.arr (ver+1) s [] true)) w∧Tr e D w (e.set n ⟨ver+1,.nil⟩) D w:=by
 have ht:Tr e D w (e.set n ⟨ver+1,.nil⟩) D w:=⟨rfl,rfl,rfl,Nat.le_refl _,fun _ _ _=>rfl,fun i b h=>.inl ⟨i,h⟩,qv.set e n p _ hp (by simp[hpv])⟩
 have hqq:=xj hq (by simp)
 have hn:n<PS.length:=(List.getElem?_eq_some_iff.1 hqq).1
 refine⟨h.next ht (by simp[h.len]) (fun i b hb=>?_) h.apart (fun i q r hq' hr=>?_),ht⟩
 ·have:=h.out i b hb;exact⟨by simpa using this.1,this.2⟩
 ·by_cases hi:n=i
  ·subst hi
   right
   simp[hn] at hq'
   simp[h.len,hn] at hr
   subst hq';subst hr
   have hh:=h.holds n _ _ hqq hp
   unfold yK at hh
   simp only[hk] at hh
   exact⟨rfl,rfl,rfl,hh.2.2.2⟩
  ·left
   rw[List.getElem?_set_ne hi] at hq'
   rw[List.getElem?_set_ne hi] at hr
   exact⟨hq',hr,fun _=>Iff.rfl,fun _ _=>rfl⟩
theorem JS {s b o len cap i:Nat} {cp:Option Nat} {M':Nat→Prop} {n ver:Nat} {e':List Pos} (hp:e'[n]? =some ⟨ver,.arr b o s cap⟩) {v:Value} (h:jv (.arr b o s cap) i 0 len cp v):zH M' e' w' (.sl n ver i len cp) v:=by
 obtain⟨a,c,rfl,h⟩:=id h
 exact .sl n ver i len cp _ ⟨ver,.arr b o s cap⟩ hp (Nat.le_refl _) (fun _=>‹_›) rfl
theorem jX (ad:Addr):(storeCells ad []).run P w=.ok () w:=rfl
/-- Rows of a live piece are written. -/
theorem Rel.Kb (h:Rel F e D PS w) {n ver sz:Nat} {E:List (List HV)} {opn:Bool} (hq:zA PS n=.arr ver sz E opn) (hE:opn=false∨E≠[]) {j:Nat} {N:List (List HV)} {vs:List Value}
  (hN:RowsIn (Mut F D) e w sz N vs) (hj:j+N.length≤E.length):
  ∃p b o cap e',e[n]? =some p∧p.ver=ver∧p.kind=.arr b o sz cap∧e'[n]? =some p∧∃w',(∀(P:Program) (x:Nat),x=o+j*sz→(storeCells ⟨b,x,none⟩ vs).run P w=.ok () w')∧
   Rel F e' D (PS.set n (.arr ver sz (zP j N E) opn)) w'∧Tr e D w e' D w':=by
 obtain⟨p,b,o,cap,hp,hpv,hkd,hD,zd⟩:=h.row hq hE
 obtain⟨h1,h2,h3,cs,ty,hb,h4,h5,h6⟩:=zd
 have hvl:=hN.len
 have hle:(j+N.length)*sz≤cap*sz:=Nat.mul_le_mul_right _ (by omega)
 rw[Nat.add_mul] at hle
 have hrun:∀(P:Program) (x:Nat),x=o+j*sz→(storeCells ⟨b,x,none⟩ vs).run P w=.ok () (w.setRow b (zP (o+j*sz) vs cs.toList).toArray):=by
  rintro P x rfl
  have:=run_storeCells_at P b (o+j*sz) ty vs 0 cs w hb (by omega) hN.one
  rw[this]
  simp[zP]
 have hs:(zP (o+j*sz) vs cs.toList).length=cs.toList.length:=kn _ _ _ (by simp;omega)
 obtain⟨hrel,ht⟩:=h.write (cap:=cap) (E':=zP j N E) (opn':=opn) (ver':=ver) hq hp hpv hD hb (zP (o+j*sz) vs cs.toList).toArray (.inl ⟨rfl,hkd⟩)
  (by rw[kn _ _ _ hj];exact h1) (fun hh=>by rw[kn _ _ _ hj];exact h2 hh) h3 (by simp only[List.size_toArray,hs];simpa using h4) (by
   intro r hr
   unfold zP at hr
   rcases List.mem_append.1 hr with hr | hr
   ·exact h5 r (List.mem_of_mem_take hr)
   ·rcases List.mem_append.1 hr with hr | hr
    ·exact hN.sz r hr
    ·exact h5 r (List.mem_of_mem_drop hr)) (by
   intro i' r k' y hi hk'
   simp only[List.getElem?_toArray]
   rw[xd _ _ _ (by simp;omega)]
   rw[xd _ _ _ hj] at hi
   by_cases hii:j≤i'∧i'<j+N.length
   ·rw[if_pos hii] at hi
    obtain⟨v,h7,h8⟩:=hN.rel (i' - j) r k' y hi hk'
    have hlt:=(List.getElem?_eq_some_iff.1 h7).1
    have he:(i' - j)*sz+j*sz=i'*sz:=by rw[←Nat.add_mul];congr 1;omega
    rw[if_pos (by omega)]
    refine⟨v,?_,hN.one v (List.mem_of_getElem? h7),h8⟩
    rw[←h7];congr 1;omega
   ·rw[if_neg hii] at hi
    have hk'':k'<sz:=by rw[←h5 r (List.mem_of_getElem? hi)];exact(List.getElem?_eq_some_iff.1 hk').1
    rw[if_neg ?_]
    ·simpa using h6 i' r k' y hi hk'
    ·rintro⟨ha,hb'⟩
     by_cases hlo:i'<j
     ·have:(i'+1)*sz≤j*sz:=Nat.mul_le_mul_right _ hlo
      rw[Nat.add_mul] at this;omega
     ·have:(j+N.length)*sz≤i'*sz:=Nat.mul_le_mul_right _ (by omega)
      rw[Nat.add_mul] at this;omega)
 have hn:n<e.length:=(List.getElem?_eq_some_iff.1 hp).1
 exact⟨p,b,o,cap,_,hp,hpv,hkd,by cases p;simp_all,_,hrun,hrel,ht⟩
/-- Append. -/
theorem zBE {t t2 ty:TypeId} {x y:HV} {u v:Value} (hr:Rel F e D PS w) (hx:zH (Mut F D) e w x u) (hy:zH (Mut F D) e w y v) (hc:gR P PS t t2 x y K):
  ∃z r PS' e' D' w',(Builtin.append_ #[t,t2] ty #[u,v]).run P w=.ok r w'∧Rel F e' D' PS' w'∧Tr e D w e' D' w'∧zH (Mut F D') e' w' z r∧K z PS':=by
 unfold gR at hc
 cases hm:yV P t with
 | none=>rw[hm] at hc;exact hc.elim
 | some q=>
  obtain⟨s,b,zl⟩:=q
  rw[hm] at hc
  obtain⟨el,ti,zv,hu,hi,hz,rfl,rfl,hzs,hs0,rfl,h1z⟩:=YN hm
  have hY:∃N vs,qa PS ti.size ti.bytes x N K∧Wg P (Mut F D) e w t2 ti zv N vs v:=by
   have rest:(uG P t2∧yA PS ti.size y fun N=>qa PS ti.size ti.bytes x N K)→∃N vs,qa PS ti.size ti.bytes x N K∧Wg P (Mut F D) e w t2 ti zv N vs v:=fun hc=>by
    obtain⟨h2,hc⟩:=hc
    obtain⟨N,vs,hc,yA⟩:=Qn (P:=P) hr hy hc
    exact⟨N,vs,hc,yA.rows,.inl ⟨h2,yA⟩⟩
   cases y
   case int k n=>
    cases k<;>try exact rest hc
    obtain⟨hI,h0,hle,hb,hc⟩:=hc
    cases hy
    refine⟨_,_,hc,?_,.inr ⟨hI,n.toNat,by rw[Int.toNat_of_nonneg h0],by simp,by omega,hb,hzs,rfl⟩⟩
    have hzc:Builtin.zeroCells zv.cells n.toNat=madeCells zv.cells (n.toNat*ti.size):=by rw[←hzs];rfl
    rw[hzc]
    exact XS zv.cells hzs hs0 h1z n.toNat
   all_goals exact rest hc
  clear hc
  obtain⟨N,vs,hc,yA⟩:=hY
  -- the growing ways
  have grow:∀(E:List (List HV)) (base:Option Addr) (len cap:Nat) (evs:List Value),u=.slice base len cap→E.length=len→RowsIn (Mut F D) e w ti.size E evs→cap<len+N.length→zr (len+N.length) ti.bytes→
    (Builtin.firstCells ti.size len (.slice base len cap)).run P w.drew=.ok evs.toArray w.drew→
    ∃cs:Array Value,(Builtin.append_ #[t,t2] ty #[u,v]).run P w=.ok (.slice (some ⟨w.heap.size,0,none⟩) (len+N.length) (grownCap w (len+N.length) cap el)) (w.drew.alloc (.cells cs el))∧
     len+N.length≤grownCap w (len+N.length) cap el∧grownCap w (len+N.length) cap el≤maxLen∧grownCap w (len+N.length) cap el*ti.size≤cs.size∧
     ∃post,cs=(evs++vs++post).toArray∧RowsIn (Mut F D) e w.drew ti.size (E++N) (evs++vs):=by
   intro E base len cap evs hu' hEl hE hg zr hf
   subst hu'
   have h63:len+N.length≤maxLen:=by simp only[maxLen];have:=zr.1;omega
   have hrun:=zM5 (ty:=ty) hu hi hz yA hg h63 zr.2 hf
   have hge:=grownCap_ge w (len+N.length) cap el
   refine⟨_,hrun,hge,grownCap_le_maxLen w (len+N.length) cap el h63,?_,_,rfl,?_⟩
   ·have e1:=hE.len
    have e2:=yA.rows.len
    simp only[List.size_toArray,List.length_append,Array.length_toList,size_zeroCells,hzs,e1,e2,hEl]
    rw[←Nat.add_mul,←Nat.add_mul]
    exact Nat.mul_le_mul_right _ (by omega)
   ·exact(hE.append yA.rows).mono (Tr.same (D:=D) (e:=e) (w:=w) (w':=w.drew) rfl rfl rfl rfl).stays (.refl e)
  unfold qa at hc
  split at hc
  ·-- an immutable slice with no room
   rename_i t' E
   obtain⟨rfl,hEN,hsz,zr,hK⟩:=hc
   obtain⟨E',a,c,evs,hu',rfl,_,hlen,hcell,h1,hrel⟩:=zAH (K:=fun x=>x=E) hr hx ⟨hsz,rfl⟩
   subst hu'
   have hcE:c=E'.length:=by cases hx with | imm t E a c b o sz val hc hm ht=>exact ht rfl
   have hE:RowsIn (Mut F D) e w ti.size E' evs:=⟨hlen,hsz,h1,hrel⟩
   by_cases hN:N.length=0
   ·have hE0:E'=[]:=by rcases hEN with h | h;exact h;omega
    subst hE0
    have hN0:N=[]:=List.eq_nil_of_length_eq_zero hN
    subst hN0
    simp only[List.length_nil] at hcE
    subst hcE
    have hvs:vs=[]:=List.eq_nil_of_length_eq_zero (by simpa using yA.rows.len)
    subst hvs
    have hrun:=xm (ty:=ty) hu hi hz yA (base:=a) (len:=0) (cap:=0) (by simp) (w':=w) (fun ad _=>jX _) (fun _=>rfl)
    obtain⟨hrel',htr⟩:=hr.zCe ti.size
    refine⟨_,_,_,_,_,_,hrun,hrel',htr,?_,hK⟩
    rw[←hr.len]
    exact .sl e.length 0 0 0 none _ ⟨0,.nil⟩ (by simp) (Nat.le_refl _) (fun _=>⟨⟨a,rfl⟩,rfl,.inl rfl⟩) rfl
   ·obtain⟨cs,hrun,g1,g2,g3,post,rfl,g4⟩:=grow E' a E'.length c evs rfl rfl hE (by omega) zr (by
     cases a with
     | none=>
      have:evs=[]:=by
       cases evs with
       | nil=>rfl
       | cons v vs=>obtain⟨ad,h1,_⟩:=hcell 0 v rfl;cases h1
      subst this
      simp[Builtin.firstCells]
     | some a=>
      have:=run_loadCells_list (P:=P) w.drew a evs (fun j v hv=>by obtain⟨ad,h1,h2⟩:=hcell j v hv;cases h1;rw[Gl (w:=w) (w':=w.drew) rfl];exact h2)
      rw[hlen] at this
      simpa [Builtin.firstCells] using this)
    have hadd:=(Vd hr).Yo (post:=post) el _ true g4 (by simpa using g1) (by simp) g2 (by simpa using g3)
    refine⟨_,_,_,_,_,_,hrun,hadd,(Tr.drew w).trans (Tr.add _ _ _),?_,hK⟩
    have:=zAO (e:=e) (w':=w.drew.alloc (.cells (evs++vs++post).toArray el)) (M':=Mut F (we D PS.length w.drew.heap.size)) (s:=ti.size) (b:=w.drew.heap.size) (cp:=none) g1 g2 trivial
    rw[hr.len] at this
    exact this
  ·-- a row's end
   rename_i n ver i len
   cases hq:zA PS n with
   | arr ver' sz E opn=>?_
   | dead=>rw[hq] at hc;exact hc.elim
   | map _ _ _ _=>rw[hq] at hc;exact hc.elim
   | mapT _ _ _ _=>rw[hq] at hc;exact hc.elim
   | iter _ _ _ _ _=>rw[hq] at hc;exact hc.elim
   | rnd _ _ _ _ _ _ _ _=>rw[hq] at hc;exact hc.elim
   rw[hq] at hc
   obtain⟨rfl,rfl,hc⟩:=hc
   rcases hc with hc | ⟨hlt,hle,hK⟩
   rotate_left
   ·have hE:opn=false∨E≠[]:=.inr (by rintro rfl;simp at hlt)
    obtain⟨p,b,o,cap,e',hp,hpv,hkd,hp',w',hrun,hrel,htr⟩:=hr.Kb hq hE (j:=i+len) yA.rows (by omega)
    have hcapE:E.length≤cap:=by
     obtain⟨p2,b2,o2,cap2,hp2,_,hkd2,_,zd⟩:=hr.row hq hE
     rw[hp] at hp2;cases hp2
     rw[hkd] at hkd2;cases hkd2
     exact zd.len
    cases hx with
    | sl n ver i len cp u p0 hp0 hv'' hs h1=>
     rw[hp] at hp0;cases hp0
     have hsl:=hs hpv.symm
     rw[hkd] at hsl
     obtain⟨a,c',rfl,hlc,hcm,hn0,ha,hcc⟩:=hsl
     simp only at hcc
     obtain⟨_,hcc⟩:=hcc
     have h0:0<c':=by omega
     have hle':len+N.length≤c':=by omega
     obtain rfl:=ha h0
     have hru:=xm (ty:=ty) hu hi hz yA (base:=some ⟨b,o+i*ti.size+0,none⟩) (len:=len) (cap:=c') hle' (w':=w') (fun ad had=>by
      cases had
      rw[uT]
      exact hrun P _ (by rw[Nat.add_mul];omega)) (fun hh=>by cases hh)
     refine⟨_,_,_,_,_,_,hru,hrel,htr,?_,hK⟩
     exact .sl n ver i (len+N.length) none _ p hp' (by omega) (fun _=>by rw[hkd];exact⟨_,_,rfl,hle',hcm,by simp,fun _=>rfl,rfl,hcc⟩) rfl
   obtain⟨hil,zr,hK⟩:=hc
   have hv':qM (zA PS n) ver:=by rw[hq];rfl
   obtain⟨sz,E',opn',p,hq',hp,hpv,hh⟩:=hr.Um hv'
   rw[hq] at hq'
   injection hq' with e1 e2 e3 e4
   subst e2;subst e3;subst e4
   cases hx with
   | sl n ver i len cp u p' hp' hv'' hs h1=>
    rw[hp] at hp';cases hp'
    have hsl:=hs hpv.symm
    unfold yK at hh
    cases hk:p.kind with
    | root v=>simp only[hk] at hh
    | dead=>simp only[hk] at hh
    | nil=>
     simp only[hk] at hh hsl
     obtain⟨_,hE0,_,hD⟩:=hh
     obtain⟨⟨a,rfl⟩,hl0,_⟩:=hsl
     subst hl0;subst hE0
     simp only[List.length_nil] at hil
     have hi0:i=0:=by omega
     subst hi0
     by_cases hN:N.length=0
     ·have hN0:N=[]:=List.eq_nil_of_length_eq_zero hN
      subst hN0
      have hvs:vs=[]:=List.eq_nil_of_length_eq_zero (by simpa using yA.rows.len)
      subst hvs
      have hrun:=xm (ty:=ty) hu hi hz yA (base:=a) (len:=0) (cap:=0) (by simp) (w':=w) (fun ad _=>jX _) (fun _=>rfl)
      obtain⟨hrel',htr⟩:=hr.zRo hq hp hpv hk ti.size
      refine⟨_,_,_,_,_,_,hrun,hrel',htr,?_,by simpa using hK⟩
      have hn:n<e.length:=(List.getElem?_eq_some_iff.1 hp).1
      exact .sl n (ver+1) 0 0 none _ ⟨ver+1,.nil⟩ (by simp[hn]) (Nat.le_refl _) (fun _=>⟨⟨a,rfl⟩,rfl,.inl rfl⟩) rfl
     ·obtain⟨cs,hrun,g1,g2,g3,post,rfl,g4⟩:=grow [] a 0 0 [] rfl rfl .nil (by omega) zr (by
       cases a<;>simp[Builtin.firstCells,loadCells,loadCellsFrom])
      obtain⟨hrel',htr⟩:=(Vd hr).move (ver':=ver+1) (cap:=grownCap w (0+N.length) 0 el) (E':=[].drop 0++N) (opn':=true) hq hp hpv ([]++vs++post).toArray el (by omega) (by simpa using g1) (by simp) g2 g3 (by simpa using g4.sz) (fun i l k x hi hk=>by simpa using g4.cells [] post i l k x (by simpa using hi) hk)
      refine⟨_,_,_,_,_,_,hrun,hrel',(Tr.drew w).trans htr,?_,hK⟩
      have hn:n<e.length:=(List.getElem?_eq_some_iff.1 hp).1
      exact JS (b:=w.drew.heap.size) (o:=0) (s:=ti.size) (cap:=grownCap w (0+N.length) 0 el) (by simp[hn]) ⟨_,_,rfl,g1,g2,by simp,fun _=>by simp,rfl,by simp⟩
    | arr b o sz cap=>
     simp only[hk] at hh hsl
     obtain⟨_,rfl,hD,zd⟩:=hh
     obtain⟨a,c,rfl,hlc,hcm,hn0,ha,_,hic⟩:=hsl
     obtain⟨cs,cty,pre,evs,post,hb,wN,hcs,hpre,hE⟩:=zd.split
     have hn:n<e.length:=(List.getElem?_eq_some_iff.1 hp).1
     have hile:i≤E.length:=by omega
     have hEi:=hE.drop i
     have hEil:(E.drop i).length=len:=by simp;omega
     have hpl:pre.length=o:=hpre
     have hcl:cs.size=pre.length+evs.length+post.length:=by have:=congrArg List.length hcs;simpa [Nat.add_assoc] using this
     by_cases hroomc:len+N.length≤c
     ·-- in place
      have hmul:(E.length+N.length)*ti.size≤cap*ti.size:=Nat.mul_le_mul_right _ (by omega)
      rw[Nat.add_mul] at hmul
      have e1:=hE.len
      have e2:=yA.rows.len
      have hh:i*ti.size+len*ti.size=E.length*ti.size:=by rw[←Nat.add_mul,hil]
      have hsp:zP (o+i*ti.size+len*ti.size) vs cs.toList=(pre++evs.take (i*ti.size))++(evs.drop (i*ti.size)++vs)++post.drop vs.length:=by
       have h3:o+i*ti.size+len*ti.size=(pre++evs).length:=by
        simp only[List.length_append,e1,hpl];omega
       rw[h3,hcs]
       unfold zP
       rw[List.take_left' rfl,←List.drop_drop,List.drop_left' rfl]
       simp[←List.append_assoc,List.take_append_drop]
       rw[List.append_assoc pre,List.take_append_drop]
      have hst:∀ad,a=some ad→(storeCells (ad.add (len*ti.size)) vs).run P w=.ok () (w.setRow b (zP (o+i*ti.size+len*ti.size) vs cs.toList).toArray):=by
       intro ad had
       by_cases hc0:0<c
       ·rw[ha hc0] at had
        cases had
        rw[uT]
        have:=run_storeCells_at P b (o+i*ti.size+0+len*ti.size) cty vs 0 cs w hb (by omega) yA.rows.one
        rw[this]
        simp[zP]
       ·have hv0:vs=[]:=List.eq_nil_of_length_eq_zero (by rw[e2,show N.length=0 from by omega];simp)
        subst hv0
        rw[jX]
        have:zP (o+i*ti.size+len*ti.size) [] cs.toList=cs.toList:=by simp[zP]
        rw[this,Array.toArray_toList,setRow_self w b cs cty (0,0) hb]
      have hst0:a=none→(w.setRow b (zP (o+i*ti.size+len*ti.size) vs cs.toList).toArray)=w:=by
       intro ha0
       have hc0:=hn0 ha0
       have hv0:vs=[]:=List.eq_nil_of_length_eq_zero (by rw[e2,show N.length=0 from by omega];simp)
       subst hv0
       have:zP (o+i*ti.size+len*ti.size) [] cs.toList=cs.toList:=by simp[zP]
       rw[this,Array.toArray_toList,setRow_self w b cs cty (0,0) hb]
      have hrun:=xm (ty:=ty) hu hi hz yA (base:=a) hroomc hst hst0
      have hsplen:(zP (o+i*ti.size+len*ti.size) vs cs.toList).length=cs.size:=by
       rw[kn]
       ·simp
       ·simp only[Array.length_toList];omega
      have hcap:(cap - i)*ti.size+i*ti.size=cap*ti.size:=by rw[←Nat.add_mul];congr 1;omega
      obtain⟨hrel',htr⟩:=hr.write (b:=b) (o:=o+i*ti.size) (sz:=ti.size) (cap:=cap - i) (ver':=ver+1) (E':=E.drop i++N) (opn':=true) hq hp hpv hD hb (zP (o+i*ti.size+len*ti.size) vs cs.toList).toArray (.inr (by omega))
       (by simp;omega) (by simp) (by have:=zd.most;omega) (by rw[List.size_toArray,hsplen];omega) (hEi.append yA.rows).sz (fun j l k x hj hk'=>by
        have:=(hEi.append yA.rows).cells (pre++evs.take (i*ti.size)) (post.drop vs.length) j l k x hj hk'
        rw[←hsp] at this
        have hpl':(pre++evs.take (i*ti.size)).length=o+i*ti.size:=by
         simp only[List.length_append,List.length_take,hpl,e1]
         have:i*ti.size≤E.length*ti.size:=Nat.mul_le_mul_right _ hile
         omega
        rw[hpl'] at this
        exact this)
      refine⟨_,_,_,_,_,_,hrun,hrel',htr,?_,hK⟩
      refine JS (b:=b) (o:=o+i*ti.size) (s:=ti.size) (cap:=cap - i) (by simp[hn]) ⟨_,_,rfl,hroomc,hcm,hn0,fun h0=>?_,rfl,by omega⟩
      rw[ha h0];simp
     ·-- it grows
      have hcell:(Builtin.firstCells ti.size len (.slice a len c)).run P w.drew=.ok (evs.drop (i*ti.size)).toArray w.drew:=by
       cases a with
       | none=>
        have:=hn0 rfl
        have hl0:len=0:=by omega
        have:evs.drop (i*ti.size)=[]:=List.eq_nil_of_length_eq_zero (by rw[hEi.len,hEil,hl0];simp)
        rw[this]
        simp[Builtin.firstCells]
       | some ad=>
        have hld:=run_loadCells_list (P:=P) w.drew ad (evs.drop (i*ti.size)) (fun j v hv=>by
         have hjl:=(List.getElem?_eq_some_iff.1 hv).1
         rw[hEi.len,hEil] at hjl
         have hc0:0<c:=by
          rcases Nat.eq_zero_or_pos c with h0 | h0
          ·have:len=0:=by omega
           rw[this] at hjl;simp at hjl
          ·exact h0
         have:=ha hc0
         cases this
         rw[Gl (w:=w) (w':=w.drew) rfl,uT,cell_of_row w b _ cs cty (0,0) hb]
         have:cs[o+i*ti.size+0+j]? =cs.toList[o+i*ti.size+0+j]? :=by simp
         rw[this,hcs,List.append_assoc,List.getElem?_append_right (by omega)]
         rw[List.getElem?_drop] at hv
         rw[List.getElem?_append_left (by have:=(List.getElem?_eq_some_iff.1 hv).1;omega),←hv]
         congr 1;omega)
        rw[hEi.len,hEil] at hld
        simpa [Builtin.firstCells] using hld
      obtain⟨cs',hrun,g1,g2,g3,post',rfl,g4⟩:=grow (E.drop i) a len c (evs.drop (i*ti.size)) rfl hEil hEi (by omega) zr hcell
      obtain⟨hrel',htr⟩:=(Vd hr).move (ver':=ver+1) (cap:=grownCap w (len+N.length) c el) (E':=E.drop i++N) (opn':=true) hq hp hpv (evs.drop (i*ti.size)++vs++post').toArray el (by omega) (by rw[List.length_append,hEil];exact g1) (by simp) g2 g3 g4.sz (fun i l k x hi hk=>by simpa using g4.cells [] post' i l k x hi hk)
      refine⟨_,_,_,_,_,_,hrun,hrel',(Tr.drew w).trans htr,?_,hK⟩
      exact JS (b:=w.drew.heap.size) (o:=0) (s:=ti.size) (cap:=grownCap w (len+N.length) c el) (by simp[hn]) ⟨_,_,rfl,g1,g2,by simp,fun _=>by simp,rfl,by simp⟩
  ·-- room that is known
   rename_i n ver i len c
   cases hq:zA PS n with
   | arr ver' sz E opn=>?_
   | dead=>rw[hq] at hc;exact hc.elim
   | map _ _ _ _=>rw[hq] at hc;exact hc.elim
   | mapT _ _ _ _=>rw[hq] at hc;exact hc.elim
   | iter _ _ _ _ _=>rw[hq] at hc;exact hc.elim
   | rnd _ _ _ _ _ _ _ _=>rw[hq] at hc;exact hc.elim
   rw[hq] at hc
   obtain⟨rfl,rfl,rfl,hic,hle,hK⟩:=hc
   obtain⟨p,b,o,cap,e',hp,hpv,hkd,hp',w',hrun,hrel,htr⟩:=hr.Kb hq (.inl rfl) (j:=i+len) yA.rows (by omega)
   cases hx with
   | sl n ver i len cp u p0 hp0 hv'' hs h1=>
    rw[hp] at hp0;cases hp0
    have hsl:=hs hpv.symm
    rw[hkd] at hsl
    obtain⟨a,c',rfl,hlc,hcm,hn0,ha,hcc⟩:=hsl
    simp only at hcc
    subst hcc
    by_cases h0:0<c'
    ·obtain rfl:=ha h0
     have hru:=xm (ty:=ty) hu hi hz yA (base:=some ⟨b,o+i*ti.size+0,none⟩) (len:=len) (cap:=c') hle (w':=w') (fun ad had=>by
      cases had
      rw[uT]
      exact hrun P _ (by rw[Nat.add_mul];omega)) (fun hh=>by cases hh)
     refine⟨_,_,_,_,_,_,hru,hrel,htr,?_,hK⟩
     exact .sl n ver i (len+N.length) (some c') _ p hp' (by omega) (fun _=>by rw[hkd];exact⟨_,_,rfl,hle,hcm,by simp,fun _=>rfl,rfl⟩) rfl
    ·have hN0:N.length=0:=by omega
     have hvs:vs=[]:=List.eq_nil_of_length_eq_zero (by rw[yA.rows.len,hN0];simp)
     subst hvs
     have hww:w'=w:=by
      have:=hrun P _ rfl
      rw[jX] at this
      injection this with _ h;exact h.symm
     subst hww
     have hru:=xm (ty:=ty) hu hi hz yA (base:=a) (len:=len) (cap:=c') hle (w':=w') (fun ad _=>jX _) (fun _=>rfl)
     refine⟨_,_,_,_,_,_,hru,hrel,htr,?_,hK⟩
     exact .sl n ver i (len+N.length) (some c') _ p hp' (by omega) (fun _=>by rw[hkd];exact⟨_,_,rfl,hle,hcm,hn0,fun hh=>absurd hh h0,rfl⟩) rfl
  ·exact hc.elim
end
end Go.Eng
