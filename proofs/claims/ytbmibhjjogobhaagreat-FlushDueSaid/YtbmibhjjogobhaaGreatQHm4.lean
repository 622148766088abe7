/-
Entries put into a list that rises: it rises still.
No conditions.
-/
import Derived.Test.YtbmibhjjogobhaaGreatQHm2
import Derived.Test.YtbmibhjjogobhaaGreatQEngZ
import Derived.Test.YtbmibhjjogobhaaGreatQHm1
import Derived.Test.YtbmibhjjogobhaaGreatQHm3
import Derived.Test.YtbmibhjjogobhaaGreatQWsA
set_option linter.unusedSectionVars false
set_option linter.unusedSimpArgs false
set_option linter.unusedVariables false
noncomputable section
namespace Go.Mo
open Go Go.Eng
variable [zB]
theorem Kt:∀a:Bs,zU a a=0
 | []=>rfl
 | x::a=>by
  show Lib.compareBytes (x::a) (x::a)=0
  rw[Lib.compareBytes,if_neg (UInt8.lt_irrefl x),if_neg (UInt8.lt_irrefl x)]
  exact Kt a
theorem Ym:∀{a b:Bs},zU a b=0→a=b
 | [],[],_=>rfl
 | [],_::_,h=>by simp[zU,Lib.compareBytes] at h
 | _::_,[],h=>by simp[zU,Lib.compareBytes] at h
 | x::a,y::b,h=>by
  have h:Lib.compareBytes (x::a) (y::b)=0:=h
  rw[Lib.compareBytes] at h
  split at h
  ·cases h
  ·split at h
   ·cases h
   ·rename_i h1 h2
    have:x=y:=UInt8.toNat_inj.1 (by rw[UInt8.lt_iff_toNat_lt] at h1 h2;omega)
    rw[this,Ym h]
theorem zCx {x y:UInt8} {a b:Bs}:zU (x::a) (y::b)<0↔x.toNat<y.toNat∨x=y∧zU a b<0:=by
 show Lib.compareBytes (x::a) (y::b)<0↔_
 rw[Lib.compareBytes]
 simp only[UInt8.lt_iff_toNat_lt]
 split
 ·rename_i h;exact⟨fun _=>.inl h,fun _=>by omega⟩
 ·split
  ·rename_i h1 h2
   refine⟨fun h=>by omega,fun h=>?_⟩
   rcases h with h | ⟨rfl,_⟩<;>omega
  ·rename_i h1 h2
   have:x=y:=UInt8.toNat_inj.1 (by omega)
   exact⟨fun h=>.inr ⟨this,h⟩,fun h=>by rcases h with h | h;omega;exact h.2⟩
theorem Vh:∀{a b c:Bs},zU a b<0→zU b c<0→zU a c<0
 | [],[],_,h,_=>by simp[zU,Lib.compareBytes] at h
 | _::_,[],_,h,_=>by simp[zU,Lib.compareBytes] at h
 | _,_::_,[],_,h=>by simp[zU,Lib.compareBytes] at h
 | [],_::_,_::_,_,_=>by simp[zU,Lib.compareBytes]
 | x::a,y::b,z::c,h,k=>by
  rw[zCx] at*
  rcases h with h | ⟨rfl,h⟩
  ·rcases k with k | ⟨rfl,k⟩
   ·exact .inl (by omega)
   ·exact .inl h
  ·rcases k with k | ⟨rfl,k⟩
   ·exact .inl k
   ·exact .inr ⟨rfl,Vh h k⟩
theorem Xq:∀{a b:Bs},0<zU a b→zU b a<0
 | [],[],h=>by simp[zU,Lib.compareBytes] at h
 | _::_,[],_=>by simp[zU,Lib.compareBytes]
 | [],_::_,h=>by simp[zU,Lib.compareBytes] at h
 | x::a,y::b,h=>by
  rw[zCx]
  have h:0<Lib.compareBytes (x::a) (y::b):=h
  rw[Lib.compareBytes] at h
  simp only[UInt8.lt_iff_toNat_lt] at h
  split at h
  ·cases h
  ·split at h
   ·rename_i h1 h2;exact .inl h2
   ·rename_i h1 h2
    exact .inr ⟨UInt8.toNat_inj.1 (by omega),Xq h⟩
/-- Entries with another one put;p:it stands already. -/
def qm (k v:Bs):Bool→List (Bs×Bs)→List (Bs×Bs)
 | p,[]=>if p then [] else [(k,v)]
 | p,e::l=>(if 0≤zU e.1 k∧p=false then [(k,v)] else [])++((if zU e.1 k=0 then [] else [e])++qm k v (p || decide (0≤zU e.1 k)) l)
def YM (l:List (Bs×Bs)):Prop:=l.Pairwise fun a b=>zU a.1 b.1<0
section
variable {k v:Bs} {l:List (Bs×Bs)} {p:Bool} {x:Bs×Bs}
theorem zBZ:∀l:List (Bs×Bs),qm k v true l=l.filter fun e=>decide (zU e.1 k≠0)
 | []=>rfl
 | e::l=>by
  rw[qm,Bool.true_or,zBZ l]
  by_cases h:zU e.1 k=0<;>simp[h]
theorem Wd:∀(l:List (Bs×Bs)) (p:Bool),x∈qm k v p l→x=(k,v)∨x∈l
 | [],p,h=>by
  rw[qm] at h
  split at h<;>simp at h
  exact .inl h
 | e::l,p,h=>by
  rw[qm] at h
  simp only[List.mem_append] at h
  rcases h with h | h | h
  ·split at h<;>simp at h
   exact .inl h
  ·split at h<;>simp at h
   exact .inr (by simp[h])
  ·rcases Wd l _ h with h | h
   ·exact .inl h
   ·exact .inr (by simp[h])
theorem JA:∀(l:List (Bs×Bs)) (p:Bool),(qm k v p l).length≤l.length+if p then 0 else 1
 | [],p=>by cases p<;>simp[qm]
 | e::l,p=>by
  rw[qm]
  have:=JA l (p || decide (0≤zU e.1 k))
  cases p<;>by_cases h:0≤zU e.1 k<;>by_cases h2:zU e.1 k=0<;>simp[h,h2] at this ⊢<;>omega
theorem zEj:∀l:List (Bs×Bs),YM l→YM (qm k v false l)
 | [],_=>by simp[qm,YM]
 | e::l,h=>by
  obtain⟨h1,h2⟩:=List.pairwise_cons.1 h
  rw[qm]
  by_cases hc:0≤zU e.1 k
  ·rw[if_pos ⟨hc,rfl⟩,decide_eq_true hc,Bool.false_or,zBZ]
   have h3:=h2.filter fun e=>decide (zU e.1 k≠0)
   by_cases h0:zU e.1 k=0
   ·rw[if_pos h0,List.nil_append,List.cons_append,List.nil_append]
    refine List.pairwise_cons.2 ⟨fun y hy=>?_,h3⟩
    rw[←Ym h0]
    exact h1 y (List.mem_filter.1 hy).1
   ·rw[if_neg h0,List.cons_append,List.nil_append,List.cons_append,List.nil_append]
    have hk:zU k e.1<0:=Xq (by omega)
    refine List.pairwise_cons.2 ⟨fun y hy=>?_,List.pairwise_cons.2 ⟨fun y hy=>h1 y (List.mem_filter.1 hy).1,h3⟩⟩
    rcases List.mem_cons.1 hy with rfl | hy
    ·exact hk
    ·exact Vh hk (h1 y (List.mem_filter.1 hy).1)
  ·rw[if_neg (fun hh=>hc hh.1),if_neg (by omega),decide_eq_false hc,Bool.false_or,List.nil_append,List.cons_append,List.nil_append]
   refine List.pairwise_cons.2 ⟨fun y hy=>?_,zEj l h2⟩
   rcases Wd l _ hy with rfl | hy
   ·show zU e.1 k<0;omega
   ·exact h1 y hy
theorem zOW (h:YM l):vG l:=by
 intro i a b hi ha hb
 simp only[List.getElem?_map,Option.map_eq_some_iff] at ha hb
 obtain⟨x,hx,rfl⟩:=ha
 obtain⟨y,hy,rfl⟩:=hb
 obtain⟨h1,rfl⟩:=List.getElem?_eq_some_iff.1 hx
 obtain⟨h2,rfl⟩:=List.getElem?_eq_some_iff.1 hy
 exact List.pairwise_iff_getElem.1 h (i - 1) i h1 h2 (by omega)
end
end Go.Mo
namespace Go.Mo
open Go Go.Eng
variable [zB]
/-- Which kid a key goes to. -/
def um (p:List Bs) (k:Bs):Nat:=(p.filter fun q=>decide (zU q k≤0)).length
def kI (all:List (Bs×Bs)) (p:List Bs) (i:Nat):List (Bs×Bs):=all.filter fun e=>decide (um p e.1=i)
def wL:Nat→List (Bs×Bs)→List (Bs×Bs)
 | _,[]=>[]
 | n,e::l=>if n+yw e≤248 then e::wL (n+yw e) l else wL (n+yw e) l
theorem Us:∀(n:Nat) (l:List (Bs×Bs)),(wL n l).Sublist l
 | _,[]=>List.Sublist.refl _
 | n,e::l=>by
  rw[wL]
  split
  ·exact(Us _ l).cons_cons e
  ·exact(Us _ l).cons e
theorem zCw:∀(n:Nat) (l:List (Bs×Bs)),248<n→wL n l=[]
 | _,[],_=>rfl
 | n,e::l,h=>by rw[wL,if_neg (by omega),zCw _ l (by omega)]
theorem zDZ:∀(n:Nat) (l:List (Bs×Bs)),n≤248→ye (wL n l)+n≤248
 | _,[],h=>by simpa [wL,ye] using h
 | n,e::l,h=>by
  rw[wL]
  split
  ·rename_i hb
   have:=zDZ _ l hb
   simp only[ye,List.map_cons,List.sum_cons] at this ⊢
   omega
  ·rename_i hb
   rw[zCw _ l (by omega)]
   simpa [ye] using h
/-- A leaf of a part of the entries. -/
theorem zDa {all l:List (Bs×Bs)} (h:YM all) (ok:∀e∈all,okK e.1∧okV e.2) (few:all.length≤80) (hs:l.Sublist all) (hb:ye l≤248):okN ⟨true,l,[],[],[]⟩∧yf ⟨true,l,[],[],[]⟩:=by
 refine⟨⟨fun e he=>ok e (hs.subset he),by simp,by simp,?_⟩,?_,?_⟩
 ·have:=hs.length_le
  simp only[List.length_nil]
  omega
 ·unfold yh
  rw[if_pos rfl]
  exact⟨zOW (List.Pairwise.sublist hs h),rfl,rfl,rfl⟩
 ·simpa [wH] using hb
/-- A key put into a row of keys. -/
def qR (k:Bs) (out:List Bs):Nat:=(out.takeWhile fun q=>decide (zU q k<0)).length
def qg (out:List Bs) (k:Bs):List Bs:=if out[qR k out]? =some k then out else out.take (qR k out)++(k::out.drop (qR k out))
def vT (l:List Bs):List Bs:=l.foldl qg []
def WL (l:List Bs):Prop:=l.Pairwise fun a b=>zU a b<0
theorem zEh (out:List Bs) (k:Bs):out.length≤(qg out k).length∧(qg out k).length≤out.length+1∧1≤(qg out k).length:=by
 unfold qg
 split
 ·rename_i h
  have:=(List.getElem?_eq_some_iff.1 h).1
  omega
 ·simp only[List.length_append,List.length_cons,List.length_take,List.length_drop]
  omega
theorem zJ8 {out:List Bs} {k q:Bs} (h:q∈qg out k):q=k∨q∈out:=by
 unfold qg at h
 split at h
 ·exact .inr h
 ·rcases List.mem_append.1 h with h | h
  ·exact .inr (List.mem_of_mem_take h)
  ·rcases List.mem_cons.1 h with rfl | h
   ·exact .inl rfl
   ·exact .inr (List.mem_of_mem_drop h)
theorem JX {k:Bs}:∀{out:List Bs} {j:Nat},j<qR k out→∃q,out[j]? =some q∧zU q k<0
 | [],j,h=>by simp[qR] at h
 | x::out,j,h=>by
  unfold qR at h
  rw[List.takeWhile_cons] at h
  split at h
  ·rename_i hx
   cases j with
   | zero=>exact⟨x,rfl,of_decide_eq_true hx⟩
   | succ j=>exact JX (out:=out) (by simpa [qR] using h)
  ·simp at h
theorem QW {k:Bs}:∀{out:List Bs} {q:Bs},out[qR k out]? =some q→0≤zU q k
 | [],q,h=>by simp[qR] at h
 | x::out,q,h=>by
  unfold qR at h
  rw[List.takeWhile_cons] at h
  split at h
  ·exact QW (out:=out) (by simpa [qR] using h)
  ·rename_i hx
   simp at h
   subst h
   simpa using hx
theorem KT {k:Bs} {out:List Bs} {i:Nat} (hi:i≤out.length) (h1:∀j,j<i→∀q,out[j]? =some q→zU q k<0) (h2:∀q,out[i]? =some q→0≤zU q k):qR k out=i:=by
 rcases Nat.lt_trichotomy (qR k out) i with h | h | h
 ·obtain⟨q,hq⟩:∃q,out[qR k out]? =some q:=⟨out[qR k out]'(by omega),by simp⟩
  have a:=h1 _ h q hq
  have b:=QW hq
  omega
 ·exact h
 ·obtain⟨q,hq,hc⟩:=JX h
  have:=h2 q hq
  omega
theorem zIP {out:List Bs} {k:Bs} (h:WL out):WL (qg out k):=by
 unfold qg
 split
 ·exact h
 ·rename_i hne
  have hs:out=out.take (qR k out)++out.drop (qR k out):=(List.take_append_drop _ _).symm
  have ha:∀q∈out.take (qR k out),zU q k<0:=fun q hq=>by
   obtain⟨j,hj⟩:=List.getElem?_of_mem hq
   have hjl:=(List.getElem?_eq_some_iff.1 hj).1
   rw[List.length_take] at hjl
   obtain⟨q',h1,h2⟩:=JX (k:=k) (out:=out) (j:=j) (by omega)
   rw[List.getElem?_take_of_lt (by omega),h1] at hj
   cases hj;exact h2
  have hd:∀q∈out.drop (qR k out),zU k q<0:=fun q hq=>by
   have hb:∀x,out[qR k out]? =some x→0<zU x k:=fun x hx=>by
    have h1:=QW hx
    rcases Int.lt_or_eq_of_le h1 with h | h
    ·exact h
    ·exact absurd (hx.trans (congrArg some (Ym h.symm))) hne
   have hp:(out.drop (qR k out)).Pairwise fun a b=>zU a b<0:=h.sublist (List.drop_sublist ..)
   cases hl:out.drop (qR k out) with
   | nil=>rw[hl] at hq;cases hq
   | cons x r=>
    have hx:out[qR k out]? =some x:=by
     have:=congrArg List.head? hl
     rwa [List.head?_drop] at this
    have h1:=Xq (hb x hx)
    rw[hl] at hq hp
    rcases List.mem_cons.1 hq with rfl | hq
    ·exact h1
    ·exact Vh h1 ((List.pairwise_cons.1 hp).1 q hq)
  rw[hs] at h
  obtain⟨h1,h2,h3⟩:=List.pairwise_append.1 h
  refine List.pairwise_append.2 ⟨h1,List.pairwise_cons.2 ⟨hd,h2⟩,fun a hm b hb=>?_⟩
  rcases List.mem_cons.1 hb with rfl | hb
  ·exact ha a hm
  ·exact h3 a hm b hb
structure uq (n:Nat) (l:List Bs):Prop where
 up:WL l
 few:l.length≤n
 ok:∀q∈l,okK q
theorem zHE {n:Nat} {out:List Bs} {k:Bs} (h:uq n out) (hk:okK k):uq (n+1) (qg out k):=
 ⟨zIP h.up,Nat.le_trans (zEh out k).2.1 (Nat.add_le_add_right h.few 1),fun q hq=>by
  rcases zJ8 hq with rfl | hq
  ·exact hk
  ·exact h.ok q hq⟩
theorem GG {l:List Bs} (hl:∀q∈l,okK q):uq l.length (vT l)∧(l≠[]→1≤(vT l).length):=by
 have:∀(l:List Bs) (n:Nat) (o:List Bs),(∀q∈l,okK q)→uq n o→uq (n+l.length) (l.foldl qg o)∧(l≠[]∨1≤o.length→1≤(l.foldl qg o).length):=by
  intro l
  induction l with
  | nil=>intro n o _ h;exact⟨h,fun h=>by rcases h with h | h;exact absurd rfl h;exact h⟩
  | cons k l ih=>
   intro n o hk h
   obtain⟨h1,h2⟩:=ih (n+1) (qg o k) (fun q hq=>hk q (by simp[hq])) (zHE h (hk k (by simp)))
   rw[List.foldl_cons,List.length_cons]
   exact⟨by rwa [Nat.add_assoc,Nat.add_comm 1] at h1,fun _=>h2 (.inr (zEh o k).2.2)⟩
 have:=this l 0 [] hl ⟨List.Pairwise.nil,by simp,by simp⟩
 rw[Nat.zero_add] at this
 exact⟨this.1,fun h=>this.2 (.inl h)⟩
/-- Kids of a node that is planted. -/
theorem zNO {l:List Bs} (h:WL l):rising l:=by
 intro i a b hi ha hb
 obtain⟨h1,rfl⟩:=List.getElem?_eq_some_iff.1 ha
 obtain⟨h2,rfl⟩:=List.getElem?_eq_some_iff.1 hb
 exact List.pairwise_iff_getElem.1 h (i - 1) i h1 h2 (by omega)
end Go.Mo
namespace Go.Ow
open Go Go.Eng
variable [zB]
theorem zI7 {x:HV} {C:List HV→Prop} (h:HV.one x=true):hst x C=C [x]:=by cases x<;>first | (cases h;done) | simp_all [hst]
/-- Where an element lies of a slice that is read:cells k of the row r. -/
def at_ (x:HV) (i k:Nat) (r:List HV):HV:=
 match x with
 | .imm _ _=>.iptr r k
 | .sl n ver j _ _=>.ptr n ver (j+i) k
 | _=>.junk
/-- What a slice that is read shows:its rows. -/
def ym (PS:PL) (s:Nat) (x:HV) (rows:List (List HV)):Prop:=
 ((∃t,x=.imm t rows)∨∃q ver pre sp o cp,x=.sl q ver pre.length rows.length cp∧zA PS q=.arr ver s (pre++(rows++sp)) o∧(o=false∨pre++(rows++sp)≠[]))∧∀r∈rows,r.length=s
section
variable {PS PS':PL} {s:Nat} {x:HV} {rows:List (List HV)} {P:Program} {K:HV→Prop} {i:Nat} {r:List HV}
theorem ym.imm (PS:PL) (t:Bool) {rows:List (List HV)} (h:∀r∈rows,r.length=s):ym PS s (.imm t rows) rows:=⟨.inl ⟨t,rfl⟩,h⟩
theorem ym.pre (h:ym PS s x rows) (hp:Pre PS PS'):ym PS' s x rows:=by
 refine⟨?_,h.2⟩
 rcases h.1 with h | ⟨q,ver,pre,sp,o,cp,rfl,hg,ho⟩
 ·exact .inl h
 ·exact .inr ⟨q,ver,pre,sp,o,cp,rfl,hp.arr hg,ho⟩
theorem ym.app (h:ym PS s x rows) (l:PL):ym (PS++l) s x rows:=h.pre (Ext.app PS l).pre
theorem ym.len (h:ym PS s x rows) (e:TypeId):kH P PS x K (some (.slice e))=(rows.length≤maxLen→K (.int .i64 rows.length)):=by
 rcases h.1 with ⟨t,rfl⟩ | ⟨q,ver,pre,sp,o,cp,rfl,hg,ho⟩
 ·rfl
 ·simp[kH,qM,hg]
theorem ym.row {q ver:Nat} {pre sp:List (List HV)} {o:Bool} (hg:zA PS q=.arr ver s (pre++(rows++sp)) o) (hi:rows[i]? =some r):(pre++(rows++sp))[pre.length+i]? =some r:=by
 have hl:=(List.getElem?_eq_some_iff.1 hi).1
 rw[List.getElem?_append_right (by omega),Nat.add_sub_cancel_left,List.getElem?_append_left hl,hi]
theorem ym.ix (h:ym PS s x rows) (hi:rows[i]? =some r) (k:IntKind) (t:TypeId) (s':Nat):vO PS x (.int k (i:Int)) K (some (t,s'))=(s=s'∧K (at_ x i 0 r)):=by
 have hr:=h.2 r (List.mem_of_getElem? hi)
 have hl:=(List.getElem?_eq_some_iff.1 hi).1
 rcases h.1 with ⟨t,rfl⟩ | ⟨q,ver,pre,sp,o,cp,rfl,hg,ho⟩
 ·simp[vO,hi,hr,at_]
 ·have:=ym.row hg hi
  simp[vO,zd,hg,this,at_,hr,hl]
theorem ym.ld {C:List HV→Prop} (h:ym PS s x rows) (hi:rows[i]? =some r) (k s':Nat):qK PS s' C (at_ x i k r)=(k+s'≤r.length∧C ((r.drop k).take s')):=by
 rcases h.1 with ⟨t,rfl⟩ | ⟨q,ver,pre,sp,o,cp,rfl,hg,ho⟩
 ·rfl
 ·have:=ym.row hg hi
  simp[qK,at_,zd,hg,this]
end
/-- A slice that an object owns:nothing,or a part of an open row of its own. -/
def SlO (PS:PL) (s:Nat) (x:HV) (own:List Nat) (rows:List (List HV)):Prop:=
 ((x=.imm true []∧rows=[]∧own=[])∨∃q ver pre sp,x=.sl q ver pre.length rows.length none∧zA PS q=.arr ver s (pre++(rows++sp)) true∧pre++(rows++sp)≠[]∧own=[q])∧∀r∈rows,r.length=s
/-- An object has changed,and nothing else. -/
def Upd (own:List Nat) (PS PS':PL) (own':List Nat):Prop:=Ext own PS PS'∧∀m∈own',m∈own∨PS.length≤m
theorem Upd.apart {own own' other:List Nat} {PS PS':PL} (h:Upd own PS PS' own') (hl:∀m∈other,m<PS.length) (hd:∀m∈other,m∉own):∀m∈other,m∉own':=fun m hm hm'=>by
 rcases h.2 m hm' with h' | h'
 ·exact hd m hm h'
 ·exact absurd (hl m hm) (by omega)
section
variable {PS PS':PL} {s:Nat} {x:HV} {own:List Nat} {rows:List (List HV)}
end
/-- A list that is being built,in a piece of its own,made since. -/
def Bld (PS0 PS:PL) (s:Nat) (x:HV) (R:List (List HV)):Prop:=
 ((R=[]∧x=.imm true [])∨(R≠[]∧∃p ver,x=.sl p ver 0 R.length none∧PS0.length≤p∧zA PS p=.arr ver s R true))∧(∀r∈R,r.length=s)∧Ext [] PS0 PS
section
variable {PS0 PS PS':PL} {s:Nat} {x:HV} {R:List (List HV)}
theorem Bld.nil (s:Nat) (h:Ext [] PS0 PS):Bld PS0 PS s (.imm true []) []:=⟨.inl ⟨rfl,rfl⟩,by simp,h⟩
theorem Bld.ext (h:Bld PS0 PS s x R):Ext [] PS0 PS:=h.2.2
theorem Bld.app {b:Nat} {N:List (List HV)} {L:HV→PL→Prop} (h:Bld PS0 PS s x R) (hN:∀r∈N,r.length=s) (h0:N≠[]) (hr:zr (R.length+N.length) b)
  (k:∀x' PS',Bld PS0 PS' s x' (R++N)→L x' PS'):qa PS s b x N L:=by
 have hall:∀r∈R++N,r.length=s:=by intro r hr;rcases List.mem_append.1 hr with hr | hr;exact h.2.1 r hr;exact hN r hr
 have hne:R++N≠[]:=by simp[h0]
 rcases h.1 with ⟨rfl,rfl⟩ | ⟨hR,p,ver,rfl,hp,hg⟩
 ·rw[zKp]
  exact⟨rfl,.inl rfl,by simp,by simpa using hr,k _ _ ⟨.inr ⟨hne,PS.length,0,by simp,h.2.2.1,(zt _ _).trans (by simp)⟩,hall,h.2.2.trans (Ext.app _ _)⟩⟩
 ·rw[zH9,hg,zNX]
  refine⟨rfl,rfl,.inl ⟨by simp,hr,?_⟩⟩
  rw[List.drop_zero]
  refine k _ _ ⟨.inr ⟨hne,p,ver+1,by simp,hp,zk _ hg⟩,hall,h.2.2.since (Ext.set _ p _) ?_⟩
  intro n hn;simp at hn;subst hn;exact .inr hp
/-- The list,as data. -/
theorem Bld.done {P:Program} {f:FuncId} {args:List HV} (hs:∀l∈R,∀y∈l,zc PS.length y) (h:zI P f args PS fun r PS'=>Bld PS PS' s r R):zI P f args PS fun r PS'=>r=.imm (decide (R=[])) R∧PS'=PS:=by
 refine zI.data (xe.2 hs) ?_
 by_cases hR:R=[]
 ·refine h.mono ?_
  rintro r PS' ⟨h1,h2,h3⟩
  rcases h1 with ⟨_,rfl⟩ | ⟨hn,_⟩
  ·exact⟨by simp[hR],h3⟩
  ·exact absurd hR hn
 ·refine zI.frz (h.mono ?_)
  rintro r PS' ⟨h1,h2,h3⟩
  rcases h1 with ⟨hn,_⟩ | ⟨_,p,ver,rfl,hp,hg⟩
  ·exact absurd hn hR
  ·refine⟨_,_,_,_,_,_,PS'.set p .dead,hg,.sl 0 _ none (by omega),wD.only (yB hg),by simp[hR],h3.since (Ext.set _ p _) ?_⟩
   intro n hn;simp at hn;subst hn;exact .inr hp
end
/-- A copy,as data. -/
theorem zI.copy {P:Program} {f:FuncId} {args:List HV} {PS:PL} {sz:Nat} {E:List (List HV)} (hs:∀l∈E,∀y∈l,zc PS.length y)
  (h:zI P f args PS fun r PS'=>r=.sl PS.length 0 0 E.length none∧PS'=PS++[.arr 0 sz E true]):zI P f args PS fun r PS'=>r=.imm false E∧PS'=PS:=by
 refine zI.data (xe.2 hs) (zI.frz (h.mono ?_))
 rintro r PS' ⟨rfl,rfl⟩
 refine⟨PS.length,0,sz,E,true,_,_,zt _ _,.sl 0 _ none (by omega),wD.QO,by simp,Ext.app _ _⟩
section
variable {PS PS':PL} {s:Nat} {x:HV} {own:List Nat} {R:List (List HV)}
end
theorem Yh {PS:PL} {n:Nat} (q:zC) (h:n<PS.length):zA (PS.set n q) n=q:=by simp[zA,List.getD,h]
end Go.Ow
namespace Go.Proofs.YtbmibhjjogobhaaGreat
open Go Go.Eng Go.Ow
open Go.Mo
variable [zB]
set_option maxRecDepth 20000
attribute [local irreducible] hvc zf hop zg yI zb zu yQ
def Yp (l:List (Bs×Bs)) (k:Bs):Bs×Bool:=(((l.find? fun e=>decide (e.1=k)).map Prod.snd).getD [],(l.find? fun e=>decide (e.1=k)).isSome)
theorem zF2 (l:List (Bs×Bs)) (k:Bs) (ok:∀e∈l,okK e.1∧okV e.2):okV (Yp l k).1:=by
 unfold Yp
 cases hf:l.find? fun e=>decide (e.1=k) with
 | none=>simp[okV]
 | some e=>exact(ok e (List.mem_of_find?_eq_some hf)).2
theorem zI9 (t:Bool) (l:List (Bs×Bs)) (k:Bs) (ok:∀e∈l,okK e.1∧okV e.2):Pure Tryz.prog 133 [.imm t (l.map zR),.agg (zJ k)] (.tup [.agg (zK (Yp l k).1),.bool (Yp l k).2]):=by
 refine Pure.zp (VR (wE.2 (ZH _)) (.bool _)) fun PS=>?_
 unfold Yp
 refine zPx (by unfold Tryz.f133;exact rfl) ?_
 simp only[go_sem,seval, -List.reduceReplicate]
 refine zG (zq (α:=Nat) [false,false,false,false,false,true,false,true,true,true,true,true,true,true,true,true,true,true,true,true,true,true,true,true,true] (fun i=>[(6,.int .i64 i)]) (fun i=>l.length - i) (fun i PS'=>(i≤l.length∧∀e∈l.take i,e.1≠k)∧PS'=PS++[.arr 0 9 [zJ k] false,.arr 0 17 [.int .i64 0::List.replicate 16 (.int .u8 0)] false]) 0 ⟨⟨Nat.zero_le _,by simp⟩,rfl⟩ ?_ ?_)
 ·simp only[go_sem,seval, -List.reduceReplicate,Int.natCast_zero]
 ·rintro i _ ⟨⟨hi,hu⟩,rfl⟩
  by_cases hlt:i<l.length
  ·have ha1:l[i]? =some l[i]:=by simp[hlt]
   have oi:=ok _ (List.getElem_mem hlt)
   simp only[go_sem,seval, -List.reduceReplicate,hlt,List.getElem?_map,Option.map_some,ha1,List.length_map,zR,jJ oi.1]
   intro hm
   have hmx:maxLen=9223372036854775807:=rfl
   split
   ·rename_i he
    have hf:l.find? (fun e=>decide (e.1=k))=some l[i]:=by
     have h1:(l.take i).find? (fun e=>decide (e.1=k))=none:=List.find?_eq_none.2 fun e he2=>by simpa using hu e he2
     have h2:l.find? (fun e=>decide (e.1=k))=(l.take i++l.drop i).find? (fun e=>decide (e.1=k)):=by rw[List.take_append_drop]
     rw[h2,List.find?_append,h1,List.drop_eq_getElem_cons hlt,Option.none_or,List.find?_cons]
     simp only[decide_eq_true he]
    rw[hf]
    refine⟨by omega,rfl,Ext.app _ _⟩
   ·rename_i hne
    refine⟨⟨by omega,by omega⟩,i+1,by omega,⟨by omega,fun e he=>?_⟩,rfl⟩
    rw[List.take_succ_eq_append_getElem hlt] at he
    rcases List.mem_append.1 he with he | he
    ·exact hu e he
    ·simp at he;subst he;exact hne
  ·simp only[go_sem,seval, -List.reduceReplicate,hlt,List.length_map]
   intro hm
   have hf:l.find? (fun e=>decide (e.1=k))=none:=List.find?_eq_none.2 fun e he=>by
    have:=hu e (by rw[List.take_of_length_le (by omega)];exact he)
    simpa using this
   rw[hf]
   exact⟨(qy _).2 fun y hy=>by rw[List.eq_of_mem_replicate hy];rfl,by decide,rfl,Ext.app _ _⟩
theorem zM4 (t:Bool) (l:List (Bs×Bs)) (k:Bs) (ok:∀e∈l,okK e.1∧okV e.2):∃w b,okV w∧Pure Tryz.prog 133 [.imm t (l.map zR),.agg (zJ k)] (.tup [.agg (zK w),.bool b]):=⟨_,_,zF2 l k ok,zI9 t l k ok⟩
theorem zQx (t:Bool) (w:Bs) (b:Bool) (m:Ms) (hm:m.kind=1):Pure Tryz.prog 134 [.agg (zK w),.bool b,.agg (zM m)] (.tup [.agg (zK m.val),.bool true]):=by
 refine Pure.zp (VR (wE.2 (ZH _)) (.bool _)) fun PS=>?_
 refine zRh (by unfold Tryz.f134;exact rfl) ?_
 simp only[go_sem,seval, -List.reduceReplicate,hm,zM]
 exact⟨((qy _).2 fun y hy=>zB5 m y (by simp only[zM,List.mem_cons];exact .inr (.inr hy))),by decide,Ext.app _ _⟩
theorem qk (k v:Bs):zP 9 (zK v) (zJ k++List.drop 8 (List.replicate 8 (HV.int IntKind.u8 0)++[HV.int IntKind.i64 0]++List.replicate 16 (HV.int IntKind.u8 0)))=zR (k,v):=by
 have e:9+(zK v).length=(zJ k).length+17:=by rw[yD,zh]
 unfold zP
 rw[List.take_left' (zh k),e,List.drop_append]
 simp[zR]
theorem zLD (t:Bool) (l:List (Bs×Bs)) (m:Ms) (hm:m.kind=1) (okm:okM m) (ok:∀e∈l,okK e.1∧okV e.2) (hl:l.length≤1000):Pure Tryz.prog 78 [.imm t (l.map zR),.agg (zM m)] (.imm (decide ((qm m.key m.val false l).map zR=[])) ((qm m.key m.val false l).map zR)):=by
 intro PS
 refine Bld.done (s:=26) (by intro x hx y hy;simp at hx;obtain⟨a,b,_,rfl⟩:=hx;exact Zb _ y hy) ?_
 obtain⟨w,b,hw,hf⟩:=zM4 t l m.key ok
 refine zIp (by unfold Tryz.f78;exact rfl) ?_
 simp only[go_sem,seval, -List.reduceReplicate]
 refine zG (hf.call ?_)
 simp only[go_sem,seval, -List.reduceReplicate]
 refine⟨by decide,zG ((zQx t w b m hm).call ?_)⟩
 simp only[go_sem,seval, -List.reduceReplicate]
 have hmx:maxLen=9223372036854775807:=rfl
 have hv:zK m.val++List.drop 16 (List.replicate 16 (HV.int IntKind.u8 0))=zK m.val:=by simp
 rw[hv]
 have hx0:Ext [] PS (PS++[zC.arr 0 29 [zM m] false,zC.arr 0 17 [zK w++List.drop 16 (List.replicate 16 (HV.int IntKind.u8 0))] false,zC.arr 0 17 [zK m.val] false]):=Ext.app _ _
 have g0:zA (PS++[zC.arr 0 29 [zM m] false,zC.arr 0 17 [zK w++List.drop 16 (List.replicate 16 (HV.int IntKind.u8 0))] false,zC.arr 0 17 [zK m.val] false]) PS.length=.arr 0 29 [zM m] false:=by simp[zA]
 have g2:zA (PS++[zC.arr 0 29 [zM m] false,zC.arr 0 17 [zK w++List.drop 16 (List.replicate 16 (HV.int IntKind.u8 0))] false,zC.arr 0 17 [zK m.val] false]) (PS.length+2)=.arr 0 17 [zK m.val] false:=by simp[zA]
 have hlen:(PS++[zC.arr 0 29 [zM m] false,zC.arr 0 17 [zK w++List.drop 16 (List.replicate 16 (HV.int IntKind.u8 0))] false,zC.arr 0 17 [zK m.val] false]).length=PS.length+3:=by simp
 generalize PS++[zC.arr 0 29 [zM m] false,zC.arr 0 17 [zK w++List.drop 16 (List.replicate 16 (HV.int IntKind.u8 0))] false,zC.arr 0 17 [zK m.val] false]=PA at hx0 g0 g2 hlen ⊢
 refine zG (zq (α:=Nat×Bool×HV) [false,false,false,false,false,false,false,false,false,false,false,false,true,false,false,false,false,false,false,false,false,false,false,false,false,false,false,true,true,true,true,true,true,true,true,true,true,true,true,true,true,true,true,true,true,true,true,true,true,true,true,true,true,true,true,true,true,true,true,true,true,true,true,true] (fun b=>[(11,.int .i64 b.1),(10,.bool b.2.1),(9,b.2.2)]) (fun b=>l.length - b.1) (fun b PS'=>b.1≤l.length∧∃R,R.length≤2*b.1∧R++qm m.key m.val b.2.1 (l.drop b.1)=qm m.key m.val false l∧Bld PA PS' 26 b.2.2 (R.map zR)) (0,false,.imm true []) ⟨Nat.zero_le _,[],by simp,rfl,Bld.nil 26 (Ext.refl _)⟩ ?_ ?_)
 ·simp only[go_sem,seval, -List.reduceReplicate,Int.natCast_zero]
 ·rintro⟨i,p,y⟩ PS1 ⟨hi,R,hR,hE,hb⟩
  simp only at hi hR hE hb
  have h0:=(hb.ext.2 PS.length (by omega) (by simp)).trans g0
  have h2:=(hb.ext.2 (PS.length+2) (by omega) (by simp)).trans g2
  by_cases hlt:i<l.length
  ·have ha1:l[i]? =some l[i]:=by simp[hlt]
   have oi:=ok _ (List.getElem_mem hlt)
   have hroomR:R.length≤2*l.length:=by omega
   have hdr:l.drop i=l[i]::l.drop (i+1):=List.drop_eq_getElem_cons hlt
   rw[hdr,qm] at hE
   simp only[go_sem,seval, -List.reduceReplicate,hlt,List.getElem?_map,Option.map_some,ha1,List.length_map,h0]
   intro _
   refine zG ((ke _ _ oi.1 okm.key).to ?_)
   by_cases hc:0≤zU l[i].1 m.key
   ·rw[decide_eq_true hc,Bool.or_true] at hE
    cases p with
    | false=>
     rw[if_pos ⟨hc,rfl⟩] at hE
     simp only[go_sem,seval, -List.reduceReplicate,hc,h0,h2,qk]
     refine⟨by simp,by simp[yi],hb.app (by simp[yi]) (by simp) (by simp[zr];omega) fun v PS2 hb2=>?_⟩
     have hb2:Bld PA PS2 26 v ((R++[(m.key,m.val)]).map zR):=by simpa using hb2
     by_cases h00:zU l[i].1 m.key=0
     ·rw[if_pos h00] at hE
      simp only[go_sem,seval, -List.reduceReplicate,h00]
      refine⟨⟨by omega,by omega⟩,(i+1,true,v),by simp only;omega,⟨by simp only;omega,R++[(m.key,m.val)],by simp;omega,?_,hb2⟩,.inl rfl,rfl,rfl⟩
      simpa using hE
     ·rw[if_neg h00] at hE
      simp only[go_sem,seval, -List.reduceReplicate,h00,hlt,List.getElem?_map,Option.map_some,ha1,List.length_map,yi]
      refine⟨?_,hb2.app (by simp[yi]) (by simp) (by simp[zr];omega) fun v PS3 hb3=>?_⟩
      ·simp[yi]
      refine⟨⟨by omega,by omega⟩,(i+1,true,v),by simp only;omega,⟨by simp only;omega,R++[(m.key,m.val)]++[l[i]],by simp;omega,?_,by simpa using hb3⟩,.inl rfl,rfl,rfl⟩
      simpa using hE
    | true=>
     rw[if_neg (by simp)] at hE
     by_cases h00:zU l[i].1 m.key=0
     ·rw[if_pos h00] at hE
      simp only[go_sem,seval, -List.reduceReplicate,hc,h00]
      refine⟨⟨by omega,by omega⟩,(i+1,true,y),by simp only;omega,⟨by simp only;omega,R,by omega,?_,hb⟩,.inl rfl,rfl,rfl⟩
      simpa using hE
     ·rw[if_neg h00] at hE
      simp only[go_sem,seval, -List.reduceReplicate,hc,h00,hlt,List.getElem?_map,Option.map_some,ha1,List.length_map,yi]
      refine⟨?_,hb.app (by simp[yi]) (by simp) (by simp[zr];omega) fun v PS3 hb3=>?_⟩
      ·simp[yi]
      refine⟨⟨by omega,by omega⟩,(i+1,true,v),by simp only;omega,⟨by simp only;omega,R++[l[i]],by simp;omega,?_,by simpa using hb3⟩,.inl rfl,rfl,rfl⟩
      simpa using hE
   ·have h00:¬zU l[i].1 m.key=0:=by omega
    rw[if_neg (fun hh=>hc hh.1),if_neg h00,decide_eq_false hc,Bool.or_false] at hE
    simp only[go_sem,seval, -List.reduceReplicate,hc,h00,hlt,List.getElem?_map,Option.map_some,ha1,List.length_map,yi]
    refine⟨?_,hb.app (by simp[yi]) (by simp) (by simp[zr];omega) fun v PS3 hb3=>?_⟩
    ·simp[yi]
    refine⟨⟨by omega,by omega⟩,(i+1,p,v),by simp only;omega,⟨by simp only;omega,R++[l[i]],by simp;omega,?_,by simpa using hb3⟩,.inl rfl,rfl,rfl⟩
    simpa using hE
  ·rw[List.drop_of_length_le (by omega)] at hE
   have hw:∀{v:HV} {PS3:PL} {R:List (List HV)},Bld PA PS3 26 v R→Bld PS PS3 26 v R:=fun h=>by
    refine⟨?_,h.2.1,hx0.trans h.2.2⟩
    rcases h.1 with h | ⟨h1,p,ver,h2,h3,h4⟩
    ·exact .inl h
    ·exact .inr ⟨h1,p,ver,h2,Nat.le_trans hx0.1 h3,h4⟩
   cases p with
   | false=>
    simp only[go_sem,seval, -List.reduceReplicate,hlt,List.length_map,h0,h2,qk]
    intro _
    refine⟨by simp,by simp[yi],hb.app (by simp[yi]) (by simp) (by simp[zr];omega) fun v PS2 hb2=>?_⟩
    rw[←hE]
    exact hw (by simpa [qm] using hb2)
   | true=>
    simp only[go_sem,seval, -List.reduceReplicate,hlt,List.length_map]
    intro _
    rw[←hE]
    exact hw (by simpa [qm] using hb)
end Go.Proofs.YtbmibhjjogobhaaGreat
namespace Go.Proofs.YtbmibhjjogobhaaGreat
open Go Go.Eng Go.Ow
open Go.Mo
variable [zB]
set_option maxRecDepth 20000
attribute [local irreducible] hvc zf hop zg yI zb zu yQ
def gk (v:Int):Bs:=Classical.choose (WM v)
theorem Xj (v:Int):okK (gk v):=(Classical.choose_spec (WM v)).1
theorem zEF (v:Int):Pure Tryz.prog 79 [.int .i64 v] (.agg (zJ (gk v))):=(Classical.choose_spec (WM v)).2.2
def gv (v:Int):Bs:=Classical.choose (Vw v)
theorem Ku (v:Int):okV (gv v):=(Classical.choose_spec (Vw v)).1
theorem zKu (v:Int):Pure Tryz.prog 80 [.int .i64 v] (.agg (zK (gv v))):=(Classical.choose_spec (Vw v)).2
/-- One more entry,if there is room. -/
def Ye (b:Nat) (L:List (Bs×Bs)) (x:Int):List (Bs×Bs):=
 let more:=qm (gk (x % 1099511627776)) (gv ((x % 1099511627776) / 16)) false L
 if ye more≤b then more else L
def uM (b:Nat) (l:List Int):List (Bs×Bs):=l.foldl (Ye b) []
structure YQ (b n:Nat) (L:List (Bs×Bs)):Prop where
 ok:∀e∈L,okK e.1∧okV e.2
 up:YM L
 by_:ye L≤b
 few:L.length≤n
theorem zPf {b n:Nat} {L:List (Bs×Bs)} (h:YQ b n L) (x:Int):YQ b (n+1) (Ye b L x):=by
 unfold Ye
 simp only
 split
 ·rename_i hb
  refine⟨fun e he=>?_,zEj _ h.up,hb,?_⟩
  ·rcases Wd _ _ he with rfl | he
   ·exact⟨Xj _,Ku _⟩
   ·exact h.ok e he
  ·have:=JA (k:=gk (x % 1099511627776)) (v:=gv ((x % 1099511627776) / 16)) L false
   have:=h.few
   simp at*;omega
 ·exact⟨h.ok,h.up,h.by_,by have:=h.few;omega⟩
theorem zCi (b:Nat) (l:List Int):YQ b l.length (uM b l):=by
 have:∀(l:List Int) (n:Nat) (L:List (Bs×Bs)),YQ b n L→YQ b (n+l.length) (l.foldl (Ye b) L):=by
  intro l
  induction l with
  | nil=>intro n L h;exact h
  | cons x l ih=>intro n L h;have:=ih _ _ (zPf h x);rw[List.foldl_cons,List.length_cons];rwa [Nat.add_assoc,Nat.add_comm 1] at this
 have:=this l 0 [] ⟨by simp,List.Pairwise.nil,by simp[ye],by simp⟩
 rwa [Nat.zero_add] at this
theorem zRB (t:Bool) (l:List Int) (b:Nat) (hb1:b≤100000):Pure Tryz.prog 40 [.imm t (l.map zY),.int .i64 b] (.imm (decide ((uM b (l.take 80)).map zR=[])) ((uM b (l.take 80)).map zR)):=by
 refine Pure.zp (xu _ zR _ Zb) fun PS=>?_
 have hmx:maxLen=9223372036854775807:=rfl
 refine zJW (by unfold Tryz.f40;exact rfl) ?_
 simp only[go_sem,seval, -List.reduceReplicate]
 refine zG (zq (α:=Nat) [false,false,false,false,false,false,false,true,true,true,true,true,true,true,true,true,true,true,true,true,true,true,true,true,true,true,true,true,true,true,true,true,true,true,true,true,true] (fun i=>[(6,.int .i64 i),(5,.imm (decide ((uM b (l.take i)).map zR=[])) ((uM b (l.take i)).map zR))]) (fun i=>l.length - i) (fun i PS'=>(i≤l.length∧i≤80)∧Ext [] PS PS') 0 ⟨⟨Nat.zero_le _,Nat.zero_le _⟩,Ext.refl _⟩ ?_ ?_)
 ·simp only[go_sem,seval, -List.reduceReplicate,Int.natCast_zero]
  rfl
 ·rintro i PS1 ⟨hi,hx⟩
  by_cases hlt:i<l.length
  ·by_cases hq:(i:Int)<80
   rotate_left
   ·simp only[go_sem,seval, -List.reduceReplicate,hlt,List.getElem?_map,List.length_map,hq]
    intro _
    have h80:i=80:=by omega
    subst h80
    exact⟨rfl,hx⟩
   have ha1:l[i]? =some l[i]:=by simp[hlt]
   have ok:=zCi b (l.take i)
   have hst:uM b (l.take (i+1))=Ye b (uM b (l.take i)) l[i]:=by
    unfold uM
    rw[List.take_succ_eq_append_getElem hlt,List.foldl_append];rfl
   have hp:=vN l[i] 1099511627776 (by omega) (by omega)
   have hk0:0≤l[i] % 1099511627776:=Int.emod_nonneg _ (by omega)
   have hd:(l[i] % 1099511627776).tdiv 16=l[i] % 1099511627776 / 16:=Int.tdiv_eq_ediv_of_nonneg hk0
   have hfew:(l.take i).length≤80:=by rw[List.length_take];omega
   have hkb:l[i] % 1099511627776<1099511627776:=Int.emod_lt_of_pos _ (by omega)
   simp only[go_sem,seval, -List.reduceReplicate,hlt,List.getElem?_map,Option.map_some,ha1,List.length_map,hq,zY]
   intro _
   refine zG (hp.call ?_)
   simp only[go_sem,seval, -List.reduceReplicate]
   refine zG ((zEF _).call ?_)
   simp only[go_sem,seval, -List.reduceReplicate,hd]
   refine⟨⟨by omega,by omega⟩,zG ((zKu _).call ?_)⟩
   simp only[go_sem,seval, -List.reduceReplicate]
   have hmsg:HV.int .i64 1::HV.int .u64 0::zP 9 (zK (gv (l[i] % 1099511627776 / 16))) (zJ (gk (l[i] % 1099511627776))++List.drop 8 (List.replicate 8 (HV.int IntKind.u8 0)++[HV.int IntKind.i64 0]++List.replicate 16 (HV.int IntKind.u8 0)++[HV.int IntKind.u64 0]))=zM ⟨1,0,gk (l[i] % 1099511627776),gv (l[i] % 1099511627776 / 16),0⟩:=by
    have hz1:List.drop 8 (List.replicate 8 (HV.int .u8 0)++[HV.int .i64 0]++List.replicate 16 (HV.int .u8 0)++[HV.int .u64 0])=zK []++[HV.int .u64 0]:=rfl
    rw[hz1,zP,List.take_left' (zh _),yD,←List.drop_drop,List.drop_left' (zh _),List.drop_left' (yD _)]
    rfl
   rw[hmsg]
   have zV:=zLD (decide (List.map zR (uM b (List.take i l))=[])) (uM b (l.take i)) ⟨1,0,gk (l[i] % 1099511627776),gv (l[i] % 1099511627776 / 16),0⟩ rfl ⟨by simp,by simp,Xj _,Ku _,by simp⟩ ok.ok (by have:=ok.few;omega)
   refine⟨by simp,zG (zV.call ?_)⟩
   simp only
   have hmo:∀e∈qm (gk (l[i] % 1099511627776)) (gv (l[i] % 1099511627776 / 16)) false (uM b (l.take i)),okK e.1∧okV e.2:=fun e he=>by
    rcases Wd _ _ he with rfl | he
    ·exact⟨Xj _,Ku _⟩
    ·exact ok.ok e he
   have hml:=JA (k:=gk (l[i] % 1099511627776)) (v:=gv (l[i] % 1099511627776 / 16)) (uM b (l.take i)) false
   unfold Ye at hst
   simp only at hst
   generalize qm (gk (l[i] % 1099511627776)) (gv (l[i] % 1099511627776 / 16)) false (uM b (l.take i))=more at hst hmo hml ⊢
   simp only[Bool.false_eq_true,if_false] at hml
   simp only[go_sem,seval, -List.reduceReplicate]
   have hbt:=zEG (decide (List.map zR more=[])) more (by have:=ok.few;omega) hmo
   change Pure _ _ _ (.int .i64 (ye more:Nat)) at hbt
   refine zG (hbt.call ?_)
   by_cases hb:ye more≤b
   ·rw[if_pos hb] at hst
    have hb':((ye more:Nat):Int)≤(b:Int):=by omega
    simp only[go_sem,seval, -List.reduceReplicate,hb']
    exact⟨⟨by omega,by omega⟩,i+1,by omega,⟨⟨by omega,by omega⟩,hx⟩,by rw[hst],rfl⟩
   ·rw[if_neg hb] at hst
    have hb':¬((ye more:Nat):Int)≤(b:Int):=by omega
    simp only[go_sem,seval, -List.reduceReplicate,hb']
    exact⟨⟨by omega,by omega⟩,i+1,by omega,⟨⟨by omega,by omega⟩,hx⟩,by rw[hst],rfl⟩
  ·simp only[go_sem,seval, -List.reduceReplicate,hlt,List.length_map]
   intro _
   rw[List.take_of_length_le (show l.length≤i by omega),List.take_of_length_le (show l.length≤80 by omega)]
   exact⟨rfl,hx⟩
end Go.Proofs.YtbmibhjjogobhaaGreat
namespace Go.Proofs.YtbmibhjjogobhaaGreat
open Go Go.Eng Go.Ow
open Go.Mo
variable [zB]
set_option maxRecDepth 20000
attribute [local irreducible] hvc zf hop zg yI zb zu yQ
theorem zRN {p:List Bs} {k:Bs} {i:Nat} (h:i<p.length):um (p.take (i+1)) k=um (p.take i) k+if zU p[i] k≤0 then 1 else 0:=by
 unfold um
 rw[List.take_succ_eq_append_getElem h,List.filter_append,List.length_append]
 congr 1
 by_cases hc:zU p[i] k≤0<;>simp[hc]
theorem zKH (t:Bool) (p:List Bs) (k:Bs) (hp:∀q∈p,okK q) (hk:okK k) (hl:p.length≤1000):Pure Tryz.prog 81 [.imm t (p.map zJ),.agg (zJ k)] (.int .i64 (um p k)):=by
 refine Pure.zp (.int _ _) fun PS=>?_
 have hmx:maxLen=9223372036854775807:=rfl
 refine zSA (by unfold Tryz.f81;exact rfl) ?_
 simp only[go_sem,seval, -List.reduceReplicate]
 refine zG (zq (α:=Nat) [false,false,false,false,false,false,false,true,true,true,true,true,true,true,true,true,true,true,true,true,true,true] (fun i=>[(6,.int .i64 i),(5,.int .i64 (um (p.take i) k))]) (fun i=>p.length - i) (fun i PS'=>i≤p.length∧Ext [] PS PS'∧zA PS' PS.length=.arr 0 9 [zJ k] false) 0 ⟨Nat.zero_le _,Ext.app _ _,by simp[zA]⟩ ?_ ?_)
 ·simp only[go_sem,seval, -List.reduceReplicate,Int.natCast_zero]
  rfl
 ·rintro i PS1 ⟨hi,hx,hg⟩
  by_cases hlt:i<p.length
  ·have ha1:p[i]? =some p[i]:=by simp[hlt]
   have hf:=zRN (k:=k) hlt
   have hle:um (p.take i) k≤i:=by
    unfold um
    exact Nat.le_trans (List.length_filter_le ..) (List.length_take_le ..)
   simp only[go_sem,seval, -List.reduceReplicate,hlt,List.getElem?_map,Option.map_some,ha1,List.length_map,hg]
   intro _
   refine zG ((ke _ _ (hp _ (List.getElem_mem hlt)) hk).to ?_)
   by_cases hc:zU p[i] k≤0
   ·rw[if_pos hc] at hf
    simp only[go_sem,seval, -List.reduceReplicate,hc]
    exact⟨⟨by omega,by omega⟩,⟨by omega,by omega⟩,i+1,by omega,⟨by omega,hx,hg⟩,by rw[hf,Int.natCast_add,Int.natCast_one],rfl⟩
   ·rw[if_neg hc] at hf
    simp only[go_sem,seval, -List.reduceReplicate,hc]
    exact⟨⟨by omega,by omega⟩,i+1,by omega,⟨by omega,hx,hg⟩,by rw[hf,Nat.add_zero],rfl⟩
  ·simp only[go_sem,seval, -List.reduceReplicate,hlt,List.length_map]
   intro _
   rw[List.take_of_length_le (by omega)]
   exact⟨rfl,hx⟩
theorem zQw (t t':Bool) (all:List (Bs×Bs)) (p:List Bs) (i:Nat) (ok:∀e∈all,okK e.1∧okV e.2) (hp:∀q∈p,okK q) (hl:p.length≤1000) (ha:all.length≤1000):
  Pure Tryz.prog 41 [.imm t (all.map zR),.imm t' (p.map zJ),.int .i64 i] (.imm (decide ((kI all p i).map zR=[])) ((kI all p i).map zR)):=by
 intro PS
 refine Bld.done (s:=26) (by intro x hx y hy;simp at hx;obtain⟨a,b,_,rfl⟩:=hx;exact Zb _ y hy) ?_
 have hmx:maxLen=9223372036854775807:=rfl
 refine zNm (by unfold Tryz.f41;exact rfl) ?_
 simp only[go_sem,seval, -List.reduceReplicate]
 refine zG (zq (α:=Nat×HV) [false,false,false,false,false,false,false,false,false,true,true,true,true,true,true,true,true,true,true,true,true,true,true,true,true,true,true,true,true,true,true] (fun b=>[(8,.int .i64 b.1),(7,b.2)]) (fun b=>all.length - b.1) (fun b PS'=>b.1≤all.length∧Bld PS PS' 26 b.2 ((kI (all.take b.1) p i).map zR)) (0,.imm true []) ⟨Nat.zero_le _,by simpa [kI] using Bld.nil 26 (Ext.refl _)⟩ ?_ ?_)
 ·simp only[go_sem,seval, -List.reduceReplicate,Int.natCast_zero]
 ·rintro⟨j,y⟩ PS1 ⟨hj,hb⟩
  simp only at hj hb
  by_cases hlt:j<all.length
  ·have ha1:all[j]? =some all[j]:=by simp[hlt]
   have oj:=ok _ (List.getElem_mem hlt)
   have hst:kI (all.take (j+1)) p i=kI (all.take j) p i++(if um p all[j].1=i then [all[j]] else []):=by
    unfold kI
    rw[List.take_succ_eq_append_getElem hlt,List.filter_append]
    by_cases hc:um p all[j].1=i<;>simp[hc]
   have hfew:(kI (all.take j) p i).length≤j:=Nat.le_trans (List.length_filter_le ..) (List.length_take_le ..)
   simp only[go_sem,seval, -List.reduceReplicate,hlt,List.getElem?_map,Option.map_some,ha1,List.length_map]
   intro _
   refine zG ((zKH t' p _ hp oj.1 hl).call ?_)
   by_cases hc:um p all[j].1=i
   ·rw[if_pos hc] at hst
    have hc':((um p all[j].1:Nat):Int)=(i:Int):=by omega
    simp only[go_sem,seval, -List.reduceReplicate,hc',hlt,List.getElem?_map,Option.map_some,ha1,List.length_map,yi]
    refine⟨?_,hb.app (by simp[yi]) (by simp) (by simp[zr];omega) fun v PS2 hb2=>?_⟩
    ·simp[yi]
    refine⟨⟨by omega,by omega⟩,(j+1,v),by simp only;omega,⟨by simp only;omega,by rw[hst];simpa using hb2⟩,.inl rfl,rfl⟩
   ·rw[if_neg hc,List.append_nil] at hst
    have hc':¬((um p all[j].1:Nat):Int)=(i:Int):=by omega
    simp only[go_sem,seval, -List.reduceReplicate,hc']
    exact⟨⟨by omega,by omega⟩,(j+1,y),by simp only;omega,⟨by simp only;omega,by rw[hst];exact hb⟩,.inl rfl,rfl⟩
  ·simp only[go_sem,seval, -List.reduceReplicate,hlt,List.length_map]
   intro _
   rw[List.take_of_length_le (show all.length≤j by omega)] at hb
   exact hb
theorem zFr:∀(n:Nat) (l:List (Bs×Bs)) (e:Bs×Bs),wL n (l++[e])=wL n l++(if n+ye l+yw e≤248 then [e] else [])
 | n,[],e=>by
  simp only[List.nil_append,wL,ye,List.map_nil,List.sum_nil,Nat.add_zero]
 | n,x::l,e=>by
  have h1:=zFr (n+yw x) l e
  have h2:n+yw x+ye l+yw e=n+ye (x::l)+yw e:=by simp only[ye,List.map_cons,List.sum_cons];omega
  rw[h2] at h1
  rw[List.cons_append,wL,wL,h1]
  split<;>rfl
theorem zGn (t:Bool) (l:List (Bs×Bs)) (ok:∀e∈l,okK e.1∧okV e.2) (hl:l.length≤1000):
  Pure Tryz.prog 43 [.imm t (l.map zR)] (.imm (decide ((wL 0 l).map zR=[])) ((wL 0 l).map zR)):=by
 intro PS
 refine Bld.done (s:=26) (by intro x hx y hy;simp at hx;obtain⟨a,b,_,rfl⟩:=hx;exact Zb _ y hy) ?_
 have hmx:maxLen=9223372036854775807:=rfl
 refine zNT (by unfold Tryz.f43;exact rfl) ?_
 simp only[go_sem,seval, -List.reduceReplicate]
 refine zG (zq (α:=Nat×HV) [false,false,false,false,false,false,true,true,true,true,true,true,true,true,true,true,true,true,true,true,true,true,true,true,true,true,true,true,true,true,true,true,true,true,true,true,true] (fun b=>[(5,.int .i64 b.1),(4,.int .i64 (ye (l.take b.1))),(3,b.2)]) (fun b=>l.length - b.1) (fun b PS'=>b.1≤l.length∧Bld PS PS' 26 b.2 ((wL 0 (l.take b.1)).map zR)) (0,.imm true []) ⟨Nat.zero_le _,by simpa [wL] using Bld.nil 26 (Ext.refl _)⟩ ?_ ?_)
 ·simp only[go_sem,seval, -List.reduceReplicate,Int.natCast_zero]
  simp[ye]
 ·rintro⟨j,y⟩ PS1 ⟨hj,hb⟩
  simp only at hj hb
  by_cases hlt:j<l.length
  ·have ha1:l[j]? =some l[j]:=by simp[hlt]
   have oj:=ok _ (List.getElem_mem hlt)
   have htk:l.take (j+1)=l.take j++[l[j]]:=List.take_succ_eq_append_getElem hlt
   have hst:=zFr 0 (l.take j) l[j]
   rw[←htk,Nat.zero_add] at hst
   have hby:ye (l.take (j+1))=ye (l.take j)+yw l[j]:=WD yw l j hlt
   have heb:yw l[j]=2+l[j].1.length+l[j].2.length:=rfl
   have hk1:=oj.1
   have hv1:=oj.2
   unfold okK at hk1
   unfold okV at hv1
   have hle:ye (l.take j)≤40*(l.take j).length:=Xz yw 40 _ fun e he=>WA (ok e (List.mem_of_mem_take he))
   have hlj:(l.take j).length≤j:=List.length_take_le ..
   have hfew:(wL 0 (l.take j)).length≤j:=Nat.le_trans (Us 0 _).length_le hlj
   have hsum:((ye (l.take j):Nat):Int)+2+(l[j].1.length:Int)+(l[j].2.length:Int)=((ye (l.take (j+1)):Nat):Int):=by rw[hby,heb];push_cast;omega
   simp only[go_sem,seval, -List.reduceReplicate,hlt,List.getElem?_map,Option.map_some,ha1,List.length_map,hsum]
   by_cases hc:ye (l.take (j+1))≤248
   ·rw[←hby,if_pos hc] at hst
    have hc':((ye (l.take (j+1)):Nat):Int)≤248:=by omega
    simp only[go_sem,seval, -List.reduceReplicate,hc',hlt,List.getElem?_map,Option.map_some,ha1,List.length_map,yi]
    intro _
    refine⟨by omega,by omega,by omega,?_,hb.app (by simp[yi]) (by simp) (by simp[zr];omega) fun v PS2 hb2=>?_⟩
    ·simp[yi]
    refine⟨⟨by omega,by omega⟩,(j+1,v),by simp only;omega,⟨by simp only;omega,by rw[hst];simpa using hb2⟩,.inl rfl,rfl,rfl⟩
   ·rw[←hby,if_neg hc,List.append_nil] at hst
    have hc':¬((ye (l.take (j+1)):Nat):Int)≤248:=by omega
    simp only[go_sem,seval, -List.reduceReplicate,hc']
    intro _
    exact⟨by omega,by omega,by omega,⟨by omega,by omega⟩,(j+1,y),by simp only;omega,⟨by simp only;omega,by rw[hst];exact hb⟩,.inl rfl,rfl,rfl⟩
  ·simp only[go_sem,seval, -List.reduceReplicate,hlt,List.length_map]
   intro _
   rw[List.take_of_length_le (show l.length≤j by omega)] at hb
   exact hb
end Go.Proofs.YtbmibhjjogobhaaGreat
namespace Go.Proofs.YtbmibhjjogobhaaGreat
open Go Go.Eng Go.Ow
open Go.Mo
variable [zB]
set_option maxRecDepth 20000
attribute [local irreducible] hvc zf hop zg yI zb zu yQ
theorem zPl {l:List Bs} {i:Nat} (h:i<l.length):vT (l.take (i+1))=qg (vT (l.take i)) l[i]:=by
 unfold vT
 rw[List.take_succ_eq_append_getElem h,List.foldl_append];rfl
theorem zG6 (t:Bool) (l:List Bs) (ok:∀q∈l,okK q) (hl:l.length≤1000):Pure Tryz.prog 130 [.imm t (l.map zJ)] (.imm (decide ((vT l).map zJ=[])) ((vT l).map zJ)):=by
 intro PS
 refine Bld.done (s:=9) (by intro x hx y hy;simp at hx;obtain⟨a,_,rfl⟩:=hx;exact uL _ y hy) ?_
 have hmx:maxLen=9223372036854775807:=rfl
 refine zRd (by unfold Tryz.f130;exact rfl) ?_
 simp only[go_sem,seval, -List.reduceReplicate]
 refine zG (zq (α:=Nat×HV) [false,false,false,false,false,true,true,true,true,true,true,true,true,true,true,true,true,true,true,true,true,true,true,true,true,true,true,true,true,true,true,true,true,true,true,true,true,true,true,true,true,true,true,true,true,true,true,true,true,true,true,true,true,true,true,true,true,true,true,true,true,true,true,true,true,true,true,true] (fun b=>[(4,.int .i64 b.1),(3,b.2)]) (fun b=>l.length - b.1) (fun b PS'=>b.1≤l.length∧Bld PS PS' 9 b.2 ((vT (l.take b.1)).map zJ)) (0,.imm true []) ⟨Nat.zero_le _,by simpa [vT] using Bld.nil 9 (Ext.refl _)⟩ ?_ ?_)
 ·simp only[go_sem,seval, -List.reduceReplicate,Int.natCast_zero]
 ·rintro⟨i,y⟩ PS1 ⟨hi,hb⟩
  simp only at hi hb
  by_cases hlt:i<l.length
  ·have ha1:l[i]? =some l[i]:=by simp[hlt]
   have oi:=ok _ (List.getElem_mem hlt)
   have hst:=zPl hlt
   have hpv:=(GG (l:=l.take i) fun q hq=>ok q (List.mem_of_mem_take hq)).1
   have hfew:(vT (l.take i)).length≤i:=Nat.le_trans hpv.few (List.length_take_le ..)
   generalize vT (l.take i)=out at hb hst hpv hfew
   simp only[go_sem,seval, -List.reduceReplicate,hlt,List.getElem?_map,Option.map_some,ha1,List.length_map]
   intro _
   refine zG ((gC _ oi).call ?_)
   simp only[go_sem,seval, -List.reduceReplicate]
   rcases hb.1 with ⟨hR,rfl⟩ | ⟨hR,p,ver,rfl,hp,hg⟩
   ·have h0:out=[]:=List.map_eq_nil_iff.1 hR
    subst h0
    refine zG (zq (α:=Nat) [false,false,false,false,false,false,false,false,false,false,false,false,false,false,false,false,false,false,false,true,true,true,true,true,true,true,true,true,true,true,true,true,true,true,true,true,true] (fun a=>[(5,.int .i64 a)]) (fun a=>1 - a) (fun a PS'=>a=0∧PS'=PS1) 0 ⟨rfl,rfl⟩ ?_ ?_)
    ·simp only[go_sem,seval, -List.reduceReplicate,Int.natCast_zero]
    ·rintro a PS2 ⟨rfl,hPS⟩
     obtain rfl:PS1=PS2:=hPS.symm
     simp only[go_sem,seval, -List.reduceReplicate,Int.natCast_zero,hlt,List.getElem?_map,Option.map_some,ha1,List.length_map]
     refine⟨by simp,by simp,by simp,by simp,by simp,by simp[zh],.inl ⟨by simp,by simp,.inl ⟨⟨by omega,by omega⟩,(i+1,.sl PS1.length 2 0 1 none),by simp only;omega,⟨by simp only;omega,?_⟩,.inl rfl,rfl⟩⟩⟩
     have e:qg [] l[i]=[l[i]]:=by simp[qg]
     rw[hst,e]
     exact⟨.inr ⟨by simp,PS1.length,2,by simp,hb.ext.1,zt _ _⟩,by simp[zh],hb.ext.trans (Ext.app _ _)⟩
   ·refine zG (zq (α:=Nat) [false,false,false,false,false,false,false,false,false,false,false,false,false,false,false,false,false,false,false,true,true,true,true,true,true,true,true,true,true,true,true,true,true,true,true,true,true] (fun a=>[(5,.int .i64 a)]) (fun a=>out.length - a) (fun a PS'=>(a≤out.length∧∀j,j<a→∀q,out[j]? =some q→zU q l[i]<0)∧PS'=PS1) 0 ⟨⟨Nat.zero_le _,fun j hj=>absurd hj (Nat.not_lt_zero j)⟩,rfl⟩ ?_ ?_)
    ·simp only[go_sem,seval, -List.reduceReplicate,Int.natCast_zero]
    ·rintro a PS2 ⟨⟨ha,hbl⟩,hPS⟩
     obtain rfl:PS1=PS2:=hPS.symm
     have hy:∀Q,zA (PS1++[Q]) p=.arr ver 9 (out.map zJ) true:=fun Q=>zx [Q] hg
     have hlm:(List.map zJ out).length=out.length:=List.length_map ..
     by_cases hal:a<out.length
     ·have hq:out[a]? =some out[a]:=by simp[hal]
      have oq:=hpv.ok _ (List.getElem_mem hal)
      simp only[go_sem,seval, -List.reduceReplicate,hal,hg,hlt,List.getElem?_map,Option.map_some,ha1,hq,List.length_map]
      refine zG ((ke _ _ oq oi).to ?_)
      by_cases hc:zU out[a] l[i]<0
      ·simp only[go_sem,seval, -List.reduceReplicate,hc]
       refine⟨⟨by omega,by omega⟩,a+1,by omega,⟨by omega,fun j hj q hq2=>?_⟩,rfl⟩
       rcases Nat.lt_or_ge j a with h | h
       ·exact hbl j h q hq2
       ·have:j=a:=by omega
        subst this
        rw[hq] at hq2;cases hq2;exact hc
      ·by_cases he:out[a]=l[i]
       ·simp only[go_sem,seval, -List.reduceReplicate,hc,hal,hg,hlt,List.getElem?_map,Option.map_some,ha1,hq,List.length_map,jJ oq,he]
        rw[if_neg (by rw[Kt];omega),if_pos (by rw[jJ oi];simp)]
        have hbe:qR l[i] out=a:=KT ha hbl fun q hq2=>by rw[hq] at hq2;cases hq2;omega
        have hins:qg out l[i]=out:=by unfold qg;rw[hbe,if_pos (by rw[hq,he])]
        refine⟨⟨by omega,by omega⟩,(i+1,.sl p ver 0 out.length none),by simp only;omega,⟨by simp only;omega,?_⟩,.inl rfl,rfl⟩
        rw[hst,hins]
        rw[hlm] at hb
        exact hb
       ·simp only[go_sem,seval, -List.reduceReplicate,hc,hal,hg,hlt,List.getElem?_map,Option.map_some,ha1,hq,List.length_map,jJ oq,he,hy]
        have hbe:qR l[i] out=a:=KT ha hbl fun q hq2=>by rw[hq] at hq2;cases hq2;omega
        have hne:out[a]? ≠some l[i]:=by rw[hq];exact fun h=>he (Option.some.inj h)
        have hins:qg out l[i]=out.take a++(l[i]::out.drop a):=by unfold qg;rw[hbe,if_neg hne]
        have e1:List.take (out.length - a) (List.drop a (List.map zJ out))=List.drop a (List.map zJ out):=List.take_of_length_le (by simp)
        have e2:(List.take a (List.map zJ out)).length=a:=by simp;omega
        have e3:(List.drop a (List.map zJ out)).length=out.length - a:=by simp
        simp only[e1,e2,e3]
        refine⟨hR,by omega,hR,ha,ha,by simp,⟨by omega,by omega⟩,⟨hR,ha⟩,by simp[zh],.inl ⟨⟨by omega,by omega⟩,⟨hR,ha⟩,by omega,.inl ⟨⟨by omega,by omega⟩,⟨by omega,by omega⟩,(i+1,.sl PS1.length 2 0 (a+1+(out.length - a)) none),by simp only;omega,⟨by simp only;omega,?_⟩,.inl rfl,rfl⟩⟩⟩
        have zd:List.take a (List.map zJ out)++[zJ l[i]]++List.drop a (List.map zJ out)=List.map zJ (out.take a++(l[i]::out.drop a)):=by simp[List.map_take,List.map_drop]
        have hln:a+1+(out.length - a)=(List.map zJ (out.take a++(l[i]::out.drop a))).length:=by simp;omega
        rw[hst,hins,zd]
        simp only
        rw[hln]
        exact⟨.inr ⟨by simp,PS1.length,2,rfl,hb.ext.1,zt _ _⟩,fun r hr=>(by obtain⟨q,_,rfl⟩:=List.mem_map.1 hr;exact zh q),hb.ext.trans (Ext.app _ _)⟩
     ·simp only[go_sem,seval, -List.reduceReplicate,hal,hg,hlt,List.getElem?_map,Option.map_some,ha1,List.length_map,hy]
      have hbe:qR l[i] out=a:=KT ha hbl fun q hq2=>by have:=(List.getElem?_eq_some_iff.1 hq2).1;omega
      have hne:out[a]? ≠some l[i]:=fun h=>by have:=(List.getElem?_eq_some_iff.1 h).1;omega
      have hins:qg out l[i]=out.take a++(l[i]::out.drop a):=by unfold qg;rw[hbe,if_neg hne]
      have e1:List.take (out.length - a) (List.drop a (List.map zJ out))=List.drop a (List.map zJ out):=List.take_of_length_le (by simp)
      have e2:(List.take a (List.map zJ out)).length=a:=by simp;omega
      have e3:(List.drop a (List.map zJ out)).length=out.length - a:=by simp
      simp only[e1,e2,e3]
      refine⟨hR,by omega,hR,ha,ha,by simp,⟨by omega,by omega⟩,⟨hR,ha⟩,by simp[zh],.inl ⟨⟨by omega,by omega⟩,⟨hR,ha⟩,by omega,.inl ⟨⟨by omega,by omega⟩,⟨by omega,by omega⟩,(i+1,.sl PS1.length 2 0 (a+1+(out.length - a)) none),by simp only;omega,⟨by simp only;omega,?_⟩,.inl rfl,rfl⟩⟩⟩
      have zd:List.take a (List.map zJ out)++[zJ l[i]]++List.drop a (List.map zJ out)=List.map zJ (out.take a++(l[i]::out.drop a)):=by simp[List.map_take,List.map_drop]
      have hln:a+1+(out.length - a)=(List.map zJ (out.take a++(l[i]::out.drop a))).length:=by simp;omega
      rw[hst,hins,zd]
      simp only
      rw[hln]
      exact⟨.inr ⟨by simp,PS1.length,2,rfl,hb.ext.1,zt _ _⟩,fun r hr=>(by obtain⟨q,_,rfl⟩:=List.mem_map.1 hr;exact zh q),hb.ext.trans (Ext.app _ _)⟩
  ·simp only[go_sem,seval, -List.reduceReplicate,hlt,List.length_map]
   intro _
   rw[List.take_of_length_le (show l.length≤i by omega)] at hb
   exact hb
end Go.Proofs.YtbmibhjjogobhaaGreat
namespace Go.Proofs.YtbmibhjjogobhaaGreat
open Go Go.Eng Go.Ow
open Go.Mo
variable [zB]
set_option maxRecDepth 20000
attribute [local irreducible] hvc zf hop zg yI zb zu yQ
def kQ (out:List Bs) (x:Int):List Bs:=if (vT (out++[gk x])).length≤3 then vT (out++[gk x]) else out
def vF (l:List Int):List Bs:=l.foldl kQ []
theorem KU {out:List Bs} (x:Int) (h:uq 3 out):uq 3 (kQ out x)∧(1≤out.length→1≤(kQ out x).length):=by
 have ho:=GG (l:=out++[gk x]) fun q hq=>by
  rcases List.mem_append.1 hq with hq | hq
  ·exact h.ok q hq
  ·simp at hq;subst hq;exact Xj x
 unfold kQ
 split
 ·rename_i hl
  exact⟨⟨ho.1.up,hl,ho.1.ok⟩,fun _=>ho.2 (by simp)⟩
 ·exact⟨h,fun h1=>h1⟩
theorem Ww (l:List Int):uq 3 (vF l):=by
 have:∀(l:List Int) (o:List Bs),uq 3 o→uq 3 (l.foldl kQ o):=by
  intro l
  induction l with
  | nil=>intro o h;exact h
  | cons x l ih=>intro o h;exact ih _ (KU x h).1
 exact this l [] ⟨List.Pairwise.nil,by simp,by simp⟩
theorem zAG (x:Int):vF [x]=[gk x]:=by
 have e:vT [gk x]=[gk x]:=by simp[vT,qg]
 simp[vF,kQ,e]
theorem zD3 (x:Int) (l:List Int):1≤(vF (x::l)).length:=by
 have:∀(l:List Int) (o:List Bs),uq 3 o→1≤o.length→1≤(l.foldl kQ o).length:=by
  intro l
  induction l with
  | nil=>intro o _ h;exact h
  | cons x l ih=>intro o h h1;exact ih _ (KU x h).1 ((KU x h).2 h1)
 have h1:=Ww [x]
 have h2:1≤(vF [x]).length:=by rw[zAG];exact Nat.le_refl _
 exact this l _ h1 h2
/-! The plans of Pivots,its Order a call that may be given a piece. -/
def pu2:Pu:=[(79,0)]
@[go_sem ↓,go_sem] theorem zU9:List.lookup 79 pu2=some 0:=id (by kernel_rfl)
@[go_sem ↓,go_sem] theorem zbN:List.lookup 130 pu2=none:=id (by kernel_rfl)
def plP (n:Nat):zL:=
 match n with
 | 5=>.one 0 <| .one 1 <| .one 3 <| .one 4 <| .one 5 <| .one 6 <| .alt 2 [6,5] (.one 7 <| .one 8 <| .alt 9 [] (.alt 10 [] (.one 11 <| .done) <| .none) <| .none) <| .none
 | _=>.done
@[go_sem] theorem zTb:plP 5=(.one 0 <| .one 1 <| .one 3 <| .one 4 <| .one 5 <| .one 6 <| .alt 2 [6,5] (.one 7 <| .one 8 <| .alt 9 [] (.alt 10 [] (.one 11 <| .done) <| .none) <| .none) <| .none):=id rfl
def tbP (n:Nat):List Row:=
 match n with
 | 5=>[⟨262144,0,0,0⟩,⟨524288,32,0,0⟩,⟨1048576,786432,3,5⟩,⟨2097152,1,0,0⟩,⟨4194304,64,0,0⟩,⟨8388608,6291456,24,1⟩,⟨16777216,8388608,32,2⟩,⟨33554432,16777216,68,0⟩,⟨67108864,33554432,128,0⟩,⟨134217728,68157440,388,5⟩,⟨268435456,134217728,512,5⟩,⟨128,268435456,2047,0⟩]
 | _=>[]
theorem zMW {c:Code} {args:List HV} {PS:PL} {K:HV→PL→Prop} (hc:Tryz.f76.body=some c) (h:hvc (hop Tryz.prog) (yW Tryz.prog pu2 plP) c (je Tryz.prog [.tmp 4] K) (vE 35 args) PS):zI Tryz.prog 76 args PS K:=by
 have hp:(match Tryz.f76.body with | some c=>yL pu2 tbP plP c | none=>true)=true:=by kernel_rfl
 rw[hc] at hp
 refine zDc tbP plP pu2 mixed Tryz.func76 hc hp ?_
 rw[Tryz.results76,Tryz.ntmps76]
 exact h
theorem zCv (t:Bool) (l:List Int):Pure Tryz.prog 76 [.imm t (l.map zY),.int .i64 3] (.imm (decide ((vF (l.take 20)).map zJ=[])) ((vF (l.take 20)).map zJ)):=by
 refine Pure.zp (xu _ zJ _ uL) fun PS=>?_
 have hmx:maxLen=9223372036854775807:=rfl
 refine zMW (by unfold Tryz.f76;exact rfl) ?_
 simp only[go_sem,seval, -List.reduceReplicate]
 refine zG (zq (α:=Nat) [false,false,false,false,false,false,false,true,true,true,true,true,true,true,true,true,true,true,true,true,true,true,true,true,true,true,true,true,true,true,true,true,true,true] (fun i=>[(6,.int .i64 i),(5,.imm (decide ((vF (l.take i)).map zJ=[])) ((vF (l.take i)).map zJ))]) (fun i=>l.length - i) (fun i PS'=>(i≤l.length∧i≤20)∧Ext [] PS PS') 0 ⟨⟨Nat.zero_le _,Nat.zero_le _⟩,Ext.refl _⟩ ?_ ?_)
 ·simp only[go_sem,seval, -List.reduceReplicate,Int.natCast_zero]
  rfl
 ·rintro i PS1 ⟨hi,hx⟩
  by_cases hlt:i<l.length
  ·have ha1:l[i]? =some l[i]:=by simp[hlt]
   by_cases hq:(i:Int)<20
   ·have ok:=Ww (l.take i)
    have hst:vF (l.take (i+1))=kQ (vF (l.take i)) l[i]:=by
     unfold vF
     rw[List.take_succ_eq_append_getElem hlt,List.foldl_append];rfl
    unfold kQ at hst
    generalize vF (l.take i)=out at hst ok ⊢
    simp only[go_sem,seval, -List.reduceReplicate,hlt,List.getElem?_map,Option.map_some,ha1,List.length_map,hq,zY]
    intro _
    have hk9:∀r∈List.map zJ out,r.length=9:=fun r hr=>by obtain⟨q,_,rfl⟩:=List.mem_map.1 hr;exact zh q
    have hf:=ok.few
    refine⟨hk9,by simp,⟨by omega,by omega⟩,zG ((zEF _).to ?_)⟩
    simp only[go_sem,seval, -List.reduceReplicate,List.length_map]
    have hm:List.map zJ out++[zJ (gk l[i])]=List.map zJ (out++[gk l[i]]):=by simp
    have hko:∀q∈out++[gk l[i]],okK q:=fun q hq=>by
     rcases List.mem_append.1 hq with hq | hq
     ·exact ok.ok q hq
     ·simp at hq;subst hq;exact Xj _
    have hg:zA (PS1++[zC.arr 1 9 (List.map zJ out++[zJ (gk l[i])]) true]) PS1.length=.arr 1 9 (List.map zJ (out++[gk l[i]])) true:=by rw[hm];exact zt _ _
    have hz:qG PS1.length 1 (List.map zJ (out++[gk l[i]])) (.sl PS1.length 1 0 (out.length+1) none) (.imm false (List.map zJ (out++[gk l[i]]))):=by
     have:=qG.sl (n:=PS1.length) (ver:=1) (E:=List.map zJ (out++[gk l[i]])) 0 (out.length+1) none (by simp)
     rwa [List.drop_zero,List.take_of_length_le (by simp)] at this
    have hF:=gF.step hg (uw.tup (.cons hz (.nil _ _ _))) (wD.only (yB hg)) (.refl _ _)
    have hset:List.set (PS1++[zC.arr 0 9 (List.map zJ out) true]) PS1.length (zC.arr (0+1) 9 (List.drop 0 (List.map zJ out)++[zJ (gk l[i])]) true)=PS1++[zC.arr 1 9 (List.map zJ out++[zJ (gk l[i])]) true]:=by simp[List.set_append_right]
    refine⟨by simp[zh],.inl ⟨⟨by omega,by omega⟩,zG ?_⟩⟩
    rw[hset]
    refine(Pure.eat (zG6 false _ hko (by simp;omega)) hF).mono ?_
    rintro _ PS2 ⟨rfl,rfl⟩
    have hml:=(GG hko).1.few
    generalize vT (out++[gk l[i]])=more at hst hml ⊢
    by_cases hb:more.length≤3
    ·rw[if_pos hb] at hst
     have hb':((more.length:Nat):Int)≤3:=by omega
     simp only[go_sem,seval, -List.reduceReplicate,hb',List.length_map]
     intro _
     exact⟨⟨by omega,by omega⟩,i+1,by omega,⟨⟨by omega,by omega⟩,hx.trans (Ext.app PS1 _)⟩,by rw[hst],rfl⟩
    ·rw[if_neg hb] at hst
     have hb':¬((more.length:Nat):Int)≤3:=by omega
     simp only[go_sem,seval, -List.reduceReplicate,hb',List.length_map]
     intro _
     exact⟨⟨by omega,by omega⟩,i+1,by omega,⟨⟨by omega,by omega⟩,hx.trans (Ext.app PS1 _)⟩,by rw[hst],rfl⟩
   ·simp only[go_sem,seval, -List.reduceReplicate,hlt,List.getElem?_map,List.length_map,hq]
    intro _
    have h20:i=20:=by omega
    subst h20
    exact⟨rfl,hx⟩
  ·simp only[go_sem,seval, -List.reduceReplicate,hlt,List.length_map]
   intro _
   rw[List.take_of_length_le (show l.length≤i by omega),List.take_of_length_le (show l.length≤20 by omega)]
   exact⟨rfl,hx⟩
end Go.Proofs.YtbmibhjjogobhaaGreat
namespace Go.Proofs.YtbmibhjjogobhaaGreat
open Go Go.Eng Go.Mo
variable [zB]
set_option maxRecDepth 20000
attribute [local irreducible] hvc zf hop zg yI zb zu yQ
end Go.Proofs.YtbmibhjjogobhaaGreat
end
