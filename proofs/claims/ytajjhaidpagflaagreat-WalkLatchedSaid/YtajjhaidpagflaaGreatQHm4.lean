/-
Entries put into a list that rises: it rises still.
Trees that are planted, by numbers: pivots in order, entries of a kid, as many as fit. No program in sight.
Slices that an object owns, or that are only read, by what they hold: lengths, elements, appends.
Which pieces are whose: by colours.
The document's leaf: Find, Put; the law's entries and leaf by numbers.
The law's entries and leaf by numbers.
Trees that are planted, by numbers: which kid, a kid's entries, as many as fit.
Keys in order, pivots by numbers.
Pivots by numbers.
Two messages of one key and one kind, as one.
No conditions.
-/
import Derived.Test.YtajjhaidpagflaaGreatQHm2
import Derived.Test.YtajjhaidpagflaaGreatQEngZ
import Derived.Test.YtajjhaidpagflaaGreatQHm1
import Derived.Test.YtajjhaidpagflaaGreatQHm3
import Derived.Test.YtajjhaidpagflaaGreatQWsA
set_option linter.unusedSectionVars false
set_option linter.unusedSimpArgs false
set_option linter.unusedVariables false
namespace Go.Mo
open Go Go.Eng
variable [Toks]
theorem cmpB_self:∀a:Bs,cmpB a a=0
  | []=>rfl
  | x::a=>by
    show Lib.compareBytes (x::a) (x::a)=0
    rw[Lib.compareBytes,if_neg (UInt8.lt_irrefl x),if_neg (UInt8.lt_irrefl x)]
    exact cmpB_self a
theorem cmpB_eq:∀{a b:Bs},cmpB a b=0→a=b
  | [],[],_=>rfl
  | [],_::_,h=>by simp[cmpB,Lib.compareBytes] at h
  | _::_,[],h=>by simp[cmpB,Lib.compareBytes] at h
  | x::a,y::b,h=>by
    have h:Lib.compareBytes (x::a) (y::b)=0:=h
    rw[Lib.compareBytes] at h
    split at h
    · cases h
    · split at h
      · cases h
      · rename_i h1 h2
        have:x=y:=UInt8.toNat_inj.1 (by rw[UInt8.lt_iff_toNat_lt] at h1 h2;omega)
        rw[this,cmpB_eq h]
theorem cmpB_lt_cons {x y:UInt8} {a b:Bs}:cmpB (x::a) (y::b)<0↔x.toNat<y.toNat∨x=y∧cmpB a b<0:=by
  show Lib.compareBytes (x::a) (y::b)<0↔_
  rw[Lib.compareBytes]
  simp only[UInt8.lt_iff_toNat_lt]
  split
  · rename_i h;exact⟨fun _=>.inl h,fun _=>by omega⟩
  · split
    · rename_i h1 h2
      refine⟨fun h=>by omega,fun h=>?_⟩
      rcases h with h | ⟨rfl,_⟩<;>omega
    · rename_i h1 h2
      have:x=y:=UInt8.toNat_inj.1 (by omega)
      exact⟨fun h=>.inr ⟨this,h⟩,fun h=>by rcases h with h | h;omega;exact h.2⟩
theorem cmpB_trans:∀{a b c:Bs},cmpB a b<0→cmpB b c<0→cmpB a c<0
  | [],[],_,h,_=>by simp[cmpB,Lib.compareBytes] at h
  | _::_,[],_,h,_=>by simp[cmpB,Lib.compareBytes] at h
  | _,_::_,[],_,h=>by simp[cmpB,Lib.compareBytes] at h
  | [],_::_,_::_,_,_=>by simp[cmpB,Lib.compareBytes]
  | x::a,y::b,z::c,h,k=>by
    rw[cmpB_lt_cons] at*
    rcases h with h | ⟨rfl,h⟩
    · rcases k with k | ⟨rfl,k⟩
      · exact .inl (by omega)
      · exact .inl h
    · rcases k with k | ⟨rfl,k⟩
      · exact .inl k
      · exact .inr ⟨rfl,cmpB_trans h k⟩
theorem cmpB_gt:∀{a b:Bs},0<cmpB a b→cmpB b a<0
  | [],[],h=>by simp[cmpB,Lib.compareBytes] at h
  | _::_,[],_=>by simp[cmpB,Lib.compareBytes]
  | [],_::_,h=>by simp[cmpB,Lib.compareBytes] at h
  | x::a,y::b,h=>by
    rw[cmpB_lt_cons]
    have h:0<Lib.compareBytes (x::a) (y::b):=h
    rw[Lib.compareBytes] at h
    simp only[UInt8.lt_iff_toNat_lt] at h
    split at h
    · cases h
    · split at h
      · rename_i h1 h2;exact .inl h2
      · rename_i h1 h2
        exact .inr ⟨UInt8.toNat_inj.1 (by omega),cmpB_gt h⟩
/-- Entries with another one put;p:it stands already. -/
def putGo (k v:Bs):Bool→List (Bs×Bs)→List (Bs×Bs)
  | p,[]=>if p then [] else [(k,v)]
  | p,e::l=>(if 0≤cmpB e.1 k∧p=false then [(k,v)] else [])++((if cmpB e.1 k=0 then [] else [e])++putGo k v (p || decide (0≤cmpB e.1 k)) l)
def rises (l:List (Bs×Bs)):Prop:=l.Pairwise fun a b=>cmpB a.1 b.1<0
section
variable {k v:Bs} {l:List (Bs×Bs)} {p:Bool} {x:Bs×Bs}
theorem putGo_true:∀l:List (Bs×Bs),putGo k v true l=l.filter fun e=>decide (cmpB e.1 k≠0)
  | []=>rfl
  | e::l=>by
    rw[putGo,Bool.true_or,putGo_true l]
    by_cases h:cmpB e.1 k=0<;>simp[h]
theorem putGo_mem:∀(l:List (Bs×Bs)) (p:Bool),x∈putGo k v p l→x=(k,v)∨x∈l
  | [],p,h=>by
    rw[putGo] at h
    split at h<;>simp at h
    exact .inl h
  | e::l,p,h=>by
    rw[putGo] at h
    simp only[List.mem_append] at h
    rcases h with h | h | h
    · split at h<;>simp at h
      exact .inl h
    · split at h<;>simp at h
      exact .inr (by simp[h])
    · rcases putGo_mem l _ h with h | h
      · exact .inl h
      · exact .inr (by simp[h])
theorem putGo_len:∀(l:List (Bs×Bs)) (p:Bool),(putGo k v p l).length≤l.length+if p then 0 else 1
  | [],p=>by cases p<;>simp[putGo]
  | e::l,p=>by
    rw[putGo]
    have:=putGo_len l (p || decide (0≤cmpB e.1 k))
    cases p<;>by_cases h:0≤cmpB e.1 k<;>by_cases h2:cmpB e.1 k=0<;>simp[h,h2] at this ⊢<;>omega
theorem putGo_rises:∀l:List (Bs×Bs),rises l→rises (putGo k v false l)
  | [],_=>by simp[putGo,rises]
  | e::l,h=>by
    obtain⟨h1,h2⟩:=List.pairwise_cons.1 h
    rw[putGo]
    by_cases hc:0≤cmpB e.1 k
    · rw[if_pos ⟨hc,rfl⟩,decide_eq_true hc,Bool.false_or,putGo_true]
      have h3:=h2.filter fun e=>decide (cmpB e.1 k≠0)
      by_cases h0:cmpB e.1 k=0
      · rw[if_pos h0,List.nil_append,List.cons_append,List.nil_append]
        refine List.pairwise_cons.2 ⟨fun y hy=>?_,h3⟩
        rw[←cmpB_eq h0]
        exact h1 y (List.mem_filter.1 hy).1
      · rw[if_neg h0,List.cons_append,List.nil_append,List.cons_append,List.nil_append]
        have hk:cmpB k e.1<0:=cmpB_gt (by omega)
        refine List.pairwise_cons.2 ⟨fun y hy=>?_,List.pairwise_cons.2 ⟨fun y hy=>h1 y (List.mem_filter.1 hy).1,h3⟩⟩
        rcases List.mem_cons.1 hy with rfl | hy
        · exact hk
        · exact cmpB_trans hk (h1 y (List.mem_filter.1 hy).1)
    · rw[if_neg (fun hh=>hc hh.1),if_neg (by omega),decide_eq_false hc,Bool.false_or,List.nil_append,List.cons_append,List.nil_append]
      refine List.pairwise_cons.2 ⟨fun y hy=>?_,putGo_rises l h2⟩
      rcases putGo_mem l _ hy with rfl | hy
      · show cmpB e.1 k<0;omega
      · exact h1 y hy
theorem rises_ok (h:rises l):entsOk l:=by
  intro i a b hi ha hb
  simp only[List.getElem?_map,Option.map_eq_some_iff] at ha hb
  obtain⟨x,hx,rfl⟩:=ha
  obtain⟨y,hy,rfl⟩:=hb
  obtain⟨h1,rfl⟩:=List.getElem?_eq_some_iff.1 hx
  obtain⟨h2,rfl⟩:=List.getElem?_eq_some_iff.1 hy
  exact List.pairwise_iff_getElem.1 h (i - 1) i h1 h2 (by omega)
end
end Go.Mo
namespace Go.Mo
open Go Go.Eng
variable [Toks]
/-- Which kid a key goes to. -/
def kidOf (p:List Bs) (k:Bs):Nat:=(p.filter fun q=>decide (cmpB q k≤0)).length
def heldOf (all:List (Bs×Bs)) (p:List Bs) (i:Nat):List (Bs×Bs):=all.filter fun e=>decide (kidOf p e.1=i)
def fitGo:Nat→List (Bs×Bs)→List (Bs×Bs)
  | _,[]=>[]
  | n,e::l=>if n+entBytes e≤248 then e::fitGo (n+entBytes e) l else fitGo (n+entBytes e) l
theorem fitGo_sub:∀(n:Nat) (l:List (Bs×Bs)),(fitGo n l).Sublist l
  | _,[]=>List.Sublist.refl _
  | n,e::l=>by
    rw[fitGo]
    split
    · exact(fitGo_sub _ l).cons_cons e
    · exact(fitGo_sub _ l).cons e
theorem fitGo_none:∀(n:Nat) (l:List (Bs×Bs)),248<n→fitGo n l=[]
  | _,[],_=>rfl
  | n,e::l,h=>by rw[fitGo,if_neg (by omega),fitGo_none _ l (by omega)]
theorem fitGo_bytes:∀(n:Nat) (l:List (Bs×Bs)),n≤248→entsBytes (fitGo n l)+n≤248
  | _,[],h=>by simpa [fitGo,entsBytes] using h
  | n,e::l,h=>by
    rw[fitGo]
    split
    · rename_i hb
      have:=fitGo_bytes _ l hb
      simp only[entsBytes,List.map_cons,List.sum_cons] at this ⊢
      omega
    · rename_i hb
      rw[fitGo_none _ l (by omega)]
      simpa [entsBytes] using h
/-- A leaf of a part of the entries. -/
theorem part_ok {all l:List (Bs×Bs)} (h:rises all) (ok:∀e∈all,okK e.1∧okV e.2) (few:all.length≤80) (hs:l.Sublist all) (hb:entsBytes l≤248):okN ⟨true,l,[],[],[]⟩∧nodFits ⟨true,l,[],[],[]⟩:=by
  refine⟨⟨fun e he=>ok e (hs.subset he),by simp,by simp,?_⟩,?_,?_⟩
  · have:=hs.length_le
    simp only[List.length_nil]
    omega
  · unfold nodOk
    rw[if_pos rfl]
    exact⟨rises_ok (List.Pairwise.sublist hs h),rfl,rfl,rfl⟩
  · simpa [nodBytes] using hb
/-- A key put into a row of keys. -/
def kbelow (k:Bs) (out:List Bs):Nat:=(out.takeWhile fun q=>decide (cmpB q k<0)).length
def insB (out:List Bs) (k:Bs):List Bs:=if out[kbelow k out]? =some k then out else out.take (kbelow k out)++(k::out.drop (kbelow k out))
def orderB (l:List Bs):List Bs:=l.foldl insB []
def risesK (l:List Bs):Prop:=l.Pairwise fun a b=>cmpB a b<0
theorem insB_len (out:List Bs) (k:Bs):out.length≤(insB out k).length∧(insB out k).length≤out.length+1∧1≤(insB out k).length:=by
  unfold insB
  split
  · rename_i h
    have:=(List.getElem?_eq_some_iff.1 h).1
    omega
  · simp only[List.length_append,List.length_cons,List.length_take,List.length_drop]
    omega
theorem insB_mem {out:List Bs} {k q:Bs} (h:q∈insB out k):q=k∨q∈out:=by
  unfold insB at h
  split at h
  · exact .inr h
  · rcases List.mem_append.1 h with h | h
    · exact .inr (List.mem_of_mem_take h)
    · rcases List.mem_cons.1 h with rfl | h
      · exact .inl rfl
      · exact .inr (List.mem_of_mem_drop h)
theorem kbelow_lt {k:Bs}:∀{out:List Bs} {j:Nat},j<kbelow k out→∃q,out[j]? =some q∧cmpB q k<0
  | [],j,h=>by simp[kbelow] at h
  | x::out,j,h=>by
    unfold kbelow at h
    rw[List.takeWhile_cons] at h
    split at h
    · rename_i hx
      cases j with
      | zero=>exact⟨x,rfl,of_decide_eq_true hx⟩
      | succ j=>exact kbelow_lt (out:=out) (by simpa [kbelow] using h)
    · simp at h
theorem kbelow_ge {k:Bs}:∀{out:List Bs} {q:Bs},out[kbelow k out]? =some q→0≤cmpB q k
  | [],q,h=>by simp[kbelow] at h
  | x::out,q,h=>by
    unfold kbelow at h
    rw[List.takeWhile_cons] at h
    split at h
    · exact kbelow_ge (out:=out) (by simpa [kbelow] using h)
    · rename_i hx
      simp at h
      subst h
      simpa using hx
theorem kbelow_le (k:Bs) (out:List Bs):kbelow k out≤out.length:=(List.takeWhile_sublist _).length_le
theorem kbelow_is {k:Bs} {out:List Bs} {i:Nat} (hi:i≤out.length) (h1:∀j,j<i→∀q,out[j]? =some q→cmpB q k<0) (h2:∀q,out[i]? =some q→0≤cmpB q k):kbelow k out=i:=by
  rcases Nat.lt_trichotomy (kbelow k out) i with h | h | h
  · obtain⟨q,hq⟩:∃q,out[kbelow k out]? =some q:=⟨out[kbelow k out]'(by omega),by simp⟩
    have a:=h1 _ h q hq
    have b:=kbelow_ge hq
    omega
  · exact h
  · obtain⟨q,hq,hc⟩:=kbelow_lt h
    have:=h2 q hq
    omega
theorem insB_rises {out:List Bs} {k:Bs} (h:risesK out):risesK (insB out k):=by
  unfold insB
  split
  · exact h
  · rename_i hne
    have hs:out=out.take (kbelow k out)++out.drop (kbelow k out):=(List.take_append_drop _ _).symm
    have ha:∀q∈out.take (kbelow k out),cmpB q k<0:=fun q hq=>by
      obtain⟨j,hj⟩:=List.getElem?_of_mem hq
      have hjl:=(List.getElem?_eq_some_iff.1 hj).1
      rw[List.length_take] at hjl
      obtain⟨q',h1,h2⟩:=kbelow_lt (k:=k) (out:=out) (j:=j) (by omega)
      rw[List.getElem?_take_of_lt (by omega),h1] at hj
      cases hj;exact h2
    have hd:∀q∈out.drop (kbelow k out),cmpB k q<0:=fun q hq=>by
      have hb:∀x,out[kbelow k out]? =some x→0<cmpB x k:=fun x hx=>by
        have h1:=kbelow_ge hx
        rcases Int.lt_or_eq_of_le h1 with h | h
        · exact h
        · exact absurd (hx.trans (congrArg some (cmpB_eq h.symm))) hne
      have hp:(out.drop (kbelow k out)).Pairwise fun a b=>cmpB a b<0:=h.sublist (List.drop_sublist ..)
      cases hl:out.drop (kbelow k out) with
      | nil=>rw[hl] at hq;cases hq
      | cons x r=>
        have hx:out[kbelow k out]? =some x:=by
          have:=congrArg List.head? hl
          rwa [List.head?_drop] at this
        have h1:=cmpB_gt (hb x hx)
        rw[hl] at hq hp
        rcases List.mem_cons.1 hq with rfl | hq
        · exact h1
        · exact cmpB_trans h1 ((List.pairwise_cons.1 hp).1 q hq)
    rw[hs] at h
    obtain⟨h1,h2,h3⟩:=List.pairwise_append.1 h
    refine List.pairwise_append.2 ⟨h1,List.pairwise_cons.2 ⟨hd,h2⟩,fun a hm b hb=>?_⟩
    rcases List.mem_cons.1 hb with rfl | hb
    · exact ha a hm
    · exact h3 a hm b hb
structure PvOk (n:Nat) (l:List Bs):Prop where
  up:risesK l
  few:l.length≤n
  ok:∀q∈l,okK q
theorem insB_ok {n:Nat} {out:List Bs} {k:Bs} (h:PvOk n out) (hk:okK k):PvOk (n+1) (insB out k):=
  ⟨insB_rises h.up,Nat.le_trans (insB_len out k).2.1 (Nat.add_le_add_right h.few 1),fun q hq=>by
    rcases insB_mem hq with rfl | hq
    · exact hk
    · exact h.ok q hq⟩
theorem orderB_ok {l:List Bs} (hl:∀q∈l,okK q):PvOk l.length (orderB l)∧(l≠[]→1≤(orderB l).length):=by
  have:∀(l:List Bs) (n:Nat) (o:List Bs),(∀q∈l,okK q)→PvOk n o→PvOk (n+l.length) (l.foldl insB o)∧(l≠[]∨1≤o.length→1≤(l.foldl insB o).length):=by
    intro l
    induction l with
    | nil=>intro n o _ h;exact⟨h,fun h=>by rcases h with h | h;exact absurd rfl h;exact h⟩
    | cons k l ih=>
      intro n o hk h
      obtain⟨h1,h2⟩:=ih (n+1) (insB o k) (fun q hq=>hk q (by simp[hq])) (insB_ok h (hk k (by simp)))
      rw[List.foldl_cons,List.length_cons]
      exact⟨by rwa [Nat.add_assoc,Nat.add_comm 1] at h1,fun _=>h2 (.inr (insB_len o k).2.2)⟩
  have:=this l 0 [] hl ⟨List.Pairwise.nil,by simp,by simp⟩
  rw[Nat.zero_add] at this
  exact⟨this.1,fun h=>this.2 (.inl h)⟩
/-- Kids of a node that is planted. -/
theorem risesK_rising {l:List Bs} (h:risesK l):rising l:=by
  intro i a b hi ha hb
  obtain⟨h1,rfl⟩:=List.getElem?_eq_some_iff.1 ha
  obtain⟨h2,rfl⟩:=List.getElem?_eq_some_iff.1 hb
  exact List.pairwise_iff_getElem.1 h (i - 1) i h1 h2 (by omega)
end Go.Mo
namespace Go.Ow
open Go Go.Eng
variable [Toks]
/-- Where an element lies of a slice that is read:cells k of the row r. -/
def at_ (x:HV) (i k:Nat) (r:List HV):HV:=
  match x with
  | .imm _ _=>.iptr r k
  | .sl n ver j _ _=>.ptr n ver (j+i) k
  | _=>.junk
section
variable {PS PS':PL} {s:Nat} {x:HV} {rows:List (List HV)} {P:Program} {K:HV→Prop} {i:Nat} {r:List HV}
end
/-- An object has changed,and nothing else. -/
def Upd (own:List Nat) (PS PS':PL) (own':List Nat):Prop:=Ext own PS PS'∧∀m∈own',m∈own∨PS.length≤m
theorem Upd.apart {own own' other:List Nat} {PS PS':PL} (h:Upd own PS PS' own') (hl:∀m∈other,m<PS.length) (hd:∀m∈other,m∉own):∀m∈other,m∉own':=fun m hm hm'=>by
  rcases h.2 m hm' with h' | h'
  · exact hd m hm h'
  · exact absurd (hl m hm) (by omega)
section
variable {PS PS':PL} {s:Nat} {x:HV} {own:List Nat} {rows:List (List HV)}
end
/-- A list that is being built,in a piece of its own,made since. -/
def Bld (PS0 PS:PL) (s:Nat) (x:HV) (R:List (List HV)):Prop:=
  ((R=[]∧x=.imm true [])∨(R≠[]∧∃p ver,x=.sl p ver 0 R.length none∧PS0.length≤p∧getP PS p=.arr ver s R true))∧(∀r∈R,r.length=s)∧Ext [] PS0 PS
section
variable {PS0 PS PS':PL} {s:Nat} {x:HV} {R:List (List HV)}
theorem Bld.nil (s:Nat) (h:Ext [] PS0 PS):Bld PS0 PS s (.imm true []) []:=⟨.inl ⟨rfl,rfl⟩,by simp,h⟩
theorem Bld.ext (h:Bld PS0 PS s x R):Ext [] PS0 PS:=h.2.2
theorem Bld.app {b:Nat} {N:List (List HV)} {L:HV→PL→Prop} (h:Bld PS0 PS s x R) (hN:∀r∈N,r.length=s) (h0:N≠[]) (hr:hroom (R.length+N.length) b)
    (k:∀x' PS',Bld PS0 PS' s x' (R++N)→L x' PS'):happ2 PS s b x N L:=by
  have hall:∀r∈R++N,r.length=s:=by intro r hr;rcases List.mem_append.1 hr with hr | hr;exact h.2.1 r hr;exact hN r hr
  have hne:R++N≠[]:=by simp[h0]
  rcases h.1 with ⟨rfl,rfl⟩ | ⟨hR,p,ver,rfl,hp,hg⟩
  · rw[happ2_imm]
    exact⟨rfl,.inl rfl,by simp,by simpa using hr,k _ _ ⟨.inr ⟨hne,PS.length,0,by simp,h.2.2.1,(getP_last _ _).trans (by simp)⟩,hall,h.2.2.trans (Ext.app _ _)⟩⟩
  · rw[happ2_open,hg,harr_arr]
    refine⟨rfl,rfl,.inl ⟨by simp,hr,?_⟩⟩
    rw[List.drop_zero]
    refine k _ _ ⟨.inr ⟨hne,p,ver+1,by simp,hp,getP_set_eq _ hg⟩,hall,h.2.2.since (Ext.set _ p _) ?_⟩
    intro n hn;simp at hn;subst hn;exact .inr hp
/-- The list,as data. -/
theorem Bld.done {P:Program} {f:FuncId} {args:List HV} (hs:∀l∈R,∀y∈l,Scoped PS.length y) (h:HCall P f args PS fun r PS'=>Bld PS PS' s r R):HCall P f args PS fun r PS'=>r=.imm (decide (R=[])) R∧PS'=PS:=by
  refine HCall.data (scoped_imm.2 hs) ?_
  by_cases hR:R=[]
  · refine h.mono ?_
    rintro r PS' ⟨h1,h2,h3⟩
    rcases h1 with ⟨_,rfl⟩ | ⟨hn,_⟩
    · exact⟨by simp[hR],h3⟩
    · exact absurd hR hn
  · refine HCall.frz (h.mono ?_)
    rintro r PS' ⟨h1,h2,h3⟩
    rcases h1 with ⟨hn,_⟩ | ⟨_,p,ver,rfl,hp,hg⟩
    · exact absurd hn hR
    · refine⟨_,_,_,_,_,_,PS'.set p .dead,hg,.sl 0 _ none (by omega),FrzPS.only (getP_lt hg),by simp[hR],h3.since (Ext.set _ p _) ?_⟩
      intro n hn;simp at hn;subst hn;exact .inr hp
end
/-- A copy,as data. -/
theorem HCall.copy {P:Program} {f:FuncId} {args:List HV} {PS:PL} {sz:Nat} {E:List (List HV)} (hs:∀l∈E,∀y∈l,Scoped PS.length y)
    (h:HCall P f args PS fun r PS'=>r=.sl PS.length 0 0 E.length none∧PS'=PS++[.arr 0 sz E true]):HCall P f args PS fun r PS'=>r=.imm false E∧PS'=PS:=by
  refine HCall.data (scoped_imm.2 hs) (HCall.frz (h.mono ?_))
  rintro r PS' ⟨rfl,rfl⟩
  refine⟨PS.length,0,sz,E,true,_,_,getP_last _ _,.sl 0 _ none (by omega),FrzPS.last0,by simp,Ext.app _ _⟩
section
variable {PS PS':PL} {s:Nat} {x:HV} {own:List Nat} {R:List (List HV)}
end
end Go.Ow
namespace Go.Proofs.YtajjhaidpagflaaGreat
open Go Go.Eng Go.Ow
open Go.Mo
variable [Toks]
set_option maxRecDepth 20000
attribute [local irreducible] hvc hops hop hplan hdrawP hval1 hopD HLoop
def fndE (l:List (Bs×Bs)) (k:Bs):Bs×Bool:=(((l.find? fun e=>decide (e.1=k)).map Prod.snd).getD [],(l.find? fun e=>decide (e.1=k)).isSome)
theorem fndE_ok (l:List (Bs×Bs)) (k:Bs) (ok:∀e∈l,okK e.1∧okV e.2):okV (fndE l k).1:=by
  unfold fndE
  cases hf:l.find? fun e=>decide (e.1=k) with
  | none=>simp[okV]
  | some e=>exact(ok e (List.mem_of_find?_eq_some hf)).2
theorem rfind_is (t:Bool) (l:List (Bs×Bs)) (k:Bs) (ok:∀e∈l,okK e.1∧okV e.2):Pure Tryz.prog 41 [.imm t (l.map entL),.agg (keyL k)] (.tup [.agg (valL (fndE l k).1),.bool (fndE l k).2]):=by
  refine Pure.of_ext (tup2_scoped (scoped_agg.2 (sc_val _)) (.bool _)) fun PS=>?_
  unfold fndE
  refine enter_41 (by unfold Tryz.f41;exact rfl) ?_
  simp only[go_sem,seval, -List.reduceReplicate]
  refine pend_intro (loop_rule (α:=Nat) [false,false,false,false,false,true,false,true,true,true,true,true,true,true,true,true,true,true,true,true,true,true,true,true,true] (fun i=>[(6,.int .i64 i)]) (fun i=>l.length - i) (fun i PS'=>(i≤l.length∧∀e∈l.take i,e.1≠k)∧PS'=PS++[.arr 0 9 [keyL k] false,.arr 0 17 [.int .i64 0::List.replicate 16 (.int .u8 0)] false]) 0 ⟨⟨Nat.zero_le _,by simp⟩,rfl⟩ ?_ ?_)
  · simp only[go_sem,seval, -List.reduceReplicate,Int.natCast_zero]
  · rintro i _ ⟨⟨hi,hu⟩,rfl⟩
    by_cases hlt:i<l.length
    · have ha1:l[i]? =some l[i]:=by simp[hlt]
      have oi:=ok _ (List.getElem_mem hlt)
      simp only[go_sem,seval, -List.reduceReplicate,hlt,List.getElem?_map,Option.map_some,ha1,List.length_map,entL,hcmp_key oi.1]
      intro hm
      have hmx:maxLen=9223372036854775807:=rfl
      split
      · rename_i he
        have hf:l.find? (fun e=>decide (e.1=k))=some l[i]:=by
          have h1:(l.take i).find? (fun e=>decide (e.1=k))=none:=List.find?_eq_none.2 fun e he2=>by simpa using hu e he2
          have h2:l.find? (fun e=>decide (e.1=k))=(l.take i++l.drop i).find? (fun e=>decide (e.1=k)):=by rw[List.take_append_drop]
          rw[h2,List.find?_append,h1,List.drop_eq_getElem_cons hlt,Option.none_or,List.find?_cons]
          simp only[decide_eq_true he]
        rw[hf]
        refine⟨by omega,rfl,Ext.app _ _⟩
      · rename_i hne
        refine⟨⟨by omega,by omega⟩,i+1,by omega,⟨by omega,fun e he=>?_⟩,rfl⟩
        rw[List.take_succ_eq_append_getElem hlt] at he
        rcases List.mem_append.1 he with he | he
        · exact hu e he
        · simp at he;subst he;exact hne
    · simp only[go_sem,seval, -List.reduceReplicate,hlt,List.length_map]
      intro hm
      have hf:l.find? (fun e=>decide (e.1=k))=none:=List.find?_eq_none.2 fun e he=>by
        have:=hu e (by rw[List.take_of_length_le (by omega)];exact he)
        simpa using this
      rw[hf]
      exact⟨(ones_iff _).2 fun y hy=>by rw[List.eq_of_mem_replicate hy];rfl,by decide,rfl,Ext.app _ _⟩
theorem rfind (t:Bool) (l:List (Bs×Bs)) (k:Bs) (ok:∀e∈l,okK e.1∧okV e.2):∃w b,okV w∧Pure Tryz.prog 41 [.imm t (l.map entL),.agg (keyL k)] (.tup [.agg (valL w),.bool b]):=⟨_,_,fndE_ok l k ok,rfind_is t l k ok⟩
theorem rapply_put (t:Bool) (w:Bs) (b:Bool) (m:Ms) (hm:m.kind=1):Pure Tryz.prog 43 [.agg (valL w),.bool b,.agg (msgL m)] (.tup [.agg (valL m.val),.bool true]):=by
  refine Pure.of_ext (tup2_scoped (scoped_agg.2 (sc_val _)) (.bool _)) fun PS=>?_
  refine enter_43 (by unfold Tryz.f43;exact rfl) ?_
  simp only[go_sem,seval, -List.reduceReplicate,hm,msgL]
  exact⟨((ones_iff _).2 fun y hy=>msgL_one m y (by simp only[msgL,List.mem_cons];exact .inr (.inr hy))),by decide,Ext.app _ _⟩
theorem hent (k v:Bs):hsplice 9 (valL v) (keyL k++List.drop 8 (List.replicate 8 (HV.int IntKind.u8 0)++[HV.int IntKind.i64 0]++List.replicate 16 (HV.int IntKind.u8 0)))=entL (k,v):=by
  have e:9+(valL v).length=(keyL k).length+17:=by rw[valL_len,keyL_len]
  unfold hsplice
  rw[List.take_left' (keyL_len k),e,List.drop_append]
  simp[entL]
theorem rput (t:Bool) (l:List (Bs×Bs)) (m:Ms) (hm:m.kind=1) (okm:okM m) (ok:∀e∈l,okK e.1∧okV e.2) (hl:l.length≤1000):Pure Tryz.prog 118 [.imm t (l.map entL),.agg (msgL m)] (.imm (decide ((putGo m.key m.val false l).map entL=[])) ((putGo m.key m.val false l).map entL)):=by
  intro PS
  refine Bld.done (s:=26) (by intro x hx y hy;simp at hx;obtain⟨a,b,_,rfl⟩:=hx;exact sc_ent _ y hy) ?_
  obtain⟨w,b,hw,hf⟩:=rfind t l m.key ok
  refine enter_118 (by unfold Tryz.f118;exact rfl) ?_
  simp only[go_sem,seval, -List.reduceReplicate]
  refine pend_intro (hf.call ?_)
  simp only[go_sem,seval, -List.reduceReplicate]
  refine⟨by decide,pend_intro ((rapply_put t w b m hm).call ?_)⟩
  simp only[go_sem,seval, -List.reduceReplicate]
  have hmx:maxLen=9223372036854775807:=rfl
  have hv:valL m.val++List.drop 16 (List.replicate 16 (HV.int IntKind.u8 0))=valL m.val:=by simp
  rw[hv]
  have hx0:Ext [] PS (PS++[Piece.arr 0 29 [msgL m] false,Piece.arr 0 17 [valL w++List.drop 16 (List.replicate 16 (HV.int IntKind.u8 0))] false,Piece.arr 0 17 [valL m.val] false]):=Ext.app _ _
  have g0:getP (PS++[Piece.arr 0 29 [msgL m] false,Piece.arr 0 17 [valL w++List.drop 16 (List.replicate 16 (HV.int IntKind.u8 0))] false,Piece.arr 0 17 [valL m.val] false]) PS.length=.arr 0 29 [msgL m] false:=by simp[getP]
  have g2:getP (PS++[Piece.arr 0 29 [msgL m] false,Piece.arr 0 17 [valL w++List.drop 16 (List.replicate 16 (HV.int IntKind.u8 0))] false,Piece.arr 0 17 [valL m.val] false]) (PS.length+2)=.arr 0 17 [valL m.val] false:=by simp[getP]
  have hlen:(PS++[Piece.arr 0 29 [msgL m] false,Piece.arr 0 17 [valL w++List.drop 16 (List.replicate 16 (HV.int IntKind.u8 0))] false,Piece.arr 0 17 [valL m.val] false]).length=PS.length+3:=by simp
  generalize PS++[Piece.arr 0 29 [msgL m] false,Piece.arr 0 17 [valL w++List.drop 16 (List.replicate 16 (HV.int IntKind.u8 0))] false,Piece.arr 0 17 [valL m.val] false]=PA at hx0 g0 g2 hlen ⊢
  refine pend_intro (loop_rule (α:=Nat×Bool×HV) [false,false,false,false,false,false,false,false,false,false,false,false,true,false,false,false,false,false,false,false,false,false,false,false,false,false,false,true,true,true,true,true,true,true,true,true,true,true,true,true,true,true,true,true,true,true,true,true,true,true,true,true,true,true,true,true,true,true,true,true,true,true,true,true] (fun b=>[(11,.int .i64 b.1),(10,.bool b.2.1),(9,b.2.2)]) (fun b=>l.length - b.1) (fun b PS'=>b.1≤l.length∧∃R,R.length≤2*b.1∧R++putGo m.key m.val b.2.1 (l.drop b.1)=putGo m.key m.val false l∧Bld PA PS' 26 b.2.2 (R.map entL)) (0,false,.imm true []) ⟨Nat.zero_le _,[],by simp,rfl,Bld.nil 26 (Ext.refl _)⟩ ?_ ?_)
  · simp only[go_sem,seval, -List.reduceReplicate,Int.natCast_zero]
  · rintro⟨i,p,y⟩ PS1 ⟨hi,R,hR,hE,hb⟩
    simp only at hi hR hE hb
    have h0:=(hb.ext.2 PS.length (by omega) (by simp)).trans g0
    have h2:=(hb.ext.2 (PS.length+2) (by omega) (by simp)).trans g2
    by_cases hlt:i<l.length
    · have ha1:l[i]? =some l[i]:=by simp[hlt]
      have oi:=ok _ (List.getElem_mem hlt)
      have hroomR:R.length≤2*l.length:=by omega
      have hdr:l.drop i=l[i]::l.drop (i+1):=List.drop_eq_getElem_cons hlt
      rw[hdr,putGo] at hE
      simp only[go_sem,seval, -List.reduceReplicate,hlt,List.getElem?_map,Option.map_some,ha1,List.length_map,h0]
      intro _
      refine pend_intro ((rkey_cmp _ _ oi.1 okm.key).to ?_)
      by_cases hc:0≤cmpB l[i].1 m.key
      · rw[decide_eq_true hc,Bool.or_true] at hE
        cases p with
        | false=>
          rw[if_pos ⟨hc,rfl⟩] at hE
          simp only[go_sem,seval, -List.reduceReplicate,hc,h0,h2,hent]
          refine⟨by simp,by simp[entL_len],hb.app (by simp[entL_len]) (by simp) (by simp[hroom];omega) fun v PS2 hb2=>?_⟩
          have hb2:Bld PA PS2 26 v ((R++[(m.key,m.val)]).map entL):=by simpa using hb2
          by_cases h00:cmpB l[i].1 m.key=0
          · rw[if_pos h00] at hE
            simp only[go_sem,seval, -List.reduceReplicate,h00]
            refine⟨⟨by omega,by omega⟩,(i+1,true,v),by simp only;omega,⟨by simp only;omega,R++[(m.key,m.val)],by simp;omega,?_,hb2⟩,.inl rfl,rfl,rfl⟩
            simpa using hE
          · rw[if_neg h00] at hE
            simp only[go_sem,seval, -List.reduceReplicate,h00,hlt,List.getElem?_map,Option.map_some,ha1,List.length_map,entL_len]
            refine⟨?_,hb2.app (by simp[entL_len]) (by simp) (by simp[hroom];omega) fun v PS3 hb3=>?_⟩
            · simp[entL_len]
            refine⟨⟨by omega,by omega⟩,(i+1,true,v),by simp only;omega,⟨by simp only;omega,R++[(m.key,m.val)]++[l[i]],by simp;omega,?_,by simpa using hb3⟩,.inl rfl,rfl,rfl⟩
            simpa using hE
        | true=>
          rw[if_neg (by simp)] at hE
          by_cases h00:cmpB l[i].1 m.key=0
          · rw[if_pos h00] at hE
            simp only[go_sem,seval, -List.reduceReplicate,hc,h00]
            refine⟨⟨by omega,by omega⟩,(i+1,true,y),by simp only;omega,⟨by simp only;omega,R,by omega,?_,hb⟩,.inl rfl,rfl,rfl⟩
            simpa using hE
          · rw[if_neg h00] at hE
            simp only[go_sem,seval, -List.reduceReplicate,hc,h00,hlt,List.getElem?_map,Option.map_some,ha1,List.length_map,entL_len]
            refine⟨?_,hb.app (by simp[entL_len]) (by simp) (by simp[hroom];omega) fun v PS3 hb3=>?_⟩
            · simp[entL_len]
            refine⟨⟨by omega,by omega⟩,(i+1,true,v),by simp only;omega,⟨by simp only;omega,R++[l[i]],by simp;omega,?_,by simpa using hb3⟩,.inl rfl,rfl,rfl⟩
            simpa using hE
      · have h00:¬cmpB l[i].1 m.key=0:=by omega
        rw[if_neg (fun hh=>hc hh.1),if_neg h00,decide_eq_false hc,Bool.or_false] at hE
        simp only[go_sem,seval, -List.reduceReplicate,hc,h00,hlt,List.getElem?_map,Option.map_some,ha1,List.length_map,entL_len]
        refine⟨?_,hb.app (by simp[entL_len]) (by simp) (by simp[hroom];omega) fun v PS3 hb3=>?_⟩
        · simp[entL_len]
        refine⟨⟨by omega,by omega⟩,(i+1,p,v),by simp only;omega,⟨by simp only;omega,R++[l[i]],by simp;omega,?_,by simpa using hb3⟩,.inl rfl,rfl,rfl⟩
        simpa using hE
    · rw[List.drop_of_length_le (by omega)] at hE
      have hw:∀{v:HV} {PS3:PL} {R:List (List HV)},Bld PA PS3 26 v R→Bld PS PS3 26 v R:=fun h=>by
        refine⟨?_,h.2.1,hx0.trans h.2.2⟩
        rcases h.1 with h | ⟨h1,p,ver,h2,h3,h4⟩
        · exact .inl h
        · exact .inr ⟨h1,p,ver,h2,Nat.le_trans hx0.1 h3,h4⟩
      cases p with
      | false=>
        simp only[go_sem,seval, -List.reduceReplicate,hlt,List.length_map,h0,h2,hent]
        intro _
        refine⟨by simp,by simp[entL_len],hb.app (by simp[entL_len]) (by simp) (by simp[hroom];omega) fun v PS2 hb2=>?_⟩
        rw[←hE]
        exact hw (by simpa [putGo] using hb2)
      | true=>
        simp only[go_sem,seval, -List.reduceReplicate,hlt,List.length_map]
        intro _
        rw[←hE]
        exact hw (by simpa [putGo] using hb)
end Go.Proofs.YtajjhaidpagflaaGreat
namespace Go.Proofs.YtajjhaidpagflaaGreat
open Go Go.Eng Go.Ow
open Go.Mo
variable [Toks]
set_option maxRecDepth 20000
attribute [local irreducible] hvc hops hop hplan hdrawP hval1 hopD HLoop
noncomputable def gk (v:Int):Bs:=Classical.choose (gen_key v)
theorem gk_ok (v:Int):okK (gk v):=(Classical.choose_spec (gen_key v)).1
theorem gk_gen (v:Int):Pure Tryz.prog 5 [.int .i64 v] (.agg (keyL (gk v))):=(Classical.choose_spec (gen_key v)).2.2
noncomputable def gv (v:Int):Bs:=Classical.choose (gen_value v)
theorem gv_ok (v:Int):okV (gv v):=(Classical.choose_spec (gen_value v)).1
theorem gv_gen (v:Int):Pure Tryz.prog 119 [.int .i64 v] (.agg (valL (gv v))):=(Classical.choose_spec (gen_value v)).2
/-- One more entry,if there is room. -/
noncomputable def entStep (b:Nat) (L:List (Bs×Bs)) (x:Int):List (Bs×Bs):=
  let more:=putGo (gk (x % 1099511627776)) (gv ((x % 1099511627776) / 16)) false L
  if entsBytes more≤b then more else L
noncomputable def entsOf (b:Nat) (l:List Int):List (Bs×Bs):=l.foldl (entStep b) []
structure EntsOk (b n:Nat) (L:List (Bs×Bs)):Prop where
  ok:∀e∈L,okK e.1∧okV e.2
  up:rises L
  by_:entsBytes L≤b
  few:L.length≤n
theorem entStep_ok {b n:Nat} {L:List (Bs×Bs)} (h:EntsOk b n L) (x:Int):EntsOk b (n+1) (entStep b L x):=by
  unfold entStep
  simp only
  split
  · rename_i hb
    refine⟨fun e he=>?_,putGo_rises _ h.up,hb,?_⟩
    · rcases putGo_mem _ _ he with rfl | he
      · exact⟨gk_ok _,gv_ok _⟩
      · exact h.ok e he
    · have:=putGo_len (k:=gk (x % 1099511627776)) (v:=gv ((x % 1099511627776) / 16)) L false
      have:=h.few
      simp at*;omega
  · exact⟨h.ok,h.up,h.by_,by have:=h.few;omega⟩
theorem entsOf_ok (b:Nat) (l:List Int):EntsOk b l.length (entsOf b l):=by
  have:∀(l:List Int) (n:Nat) (L:List (Bs×Bs)),EntsOk b n L→EntsOk b (n+l.length) (l.foldl (entStep b) L):=by
    intro l
    induction l with
    | nil=>intro n L h;exact h
    | cons x l ih=>intro n L h;have:=ih _ _ (entStep_ok h x);rw[List.foldl_cons,List.length_cons];rwa [Nat.add_assoc,Nat.add_comm 1] at this
  have:=this l 0 [] ⟨by simp,List.Pairwise.nil,by simp[entsBytes],by simp⟩
  rwa [Nat.zero_add] at this
theorem gen_ents (t:Bool) (l:List Int) (b:Nat) (hb1:b≤100000):Pure Tryz.prog 59 [.imm t (l.map kidL),.int .i64 b] (.imm (decide ((entsOf b (l.take 80)).map entL=[])) ((entsOf b (l.take 80)).map entL)):=by
  refine Pure.of_ext (sc_rows _ entL _ sc_ent) fun PS=>?_
  have hmx:maxLen=9223372036854775807:=rfl
  refine enter_59 (by unfold Tryz.f59;exact rfl) ?_
  simp only[go_sem,seval, -List.reduceReplicate]
  refine pend_intro (loop_rule (α:=Nat) [false,false,false,false,false,false,false,true,true,true,true,true,true,true,true,true,true,true,true,true,true,true,true,true,true,true,true,true,true,true,true,true,true,true,true,true,true] (fun i=>[(6,.int .i64 i),(5,.imm (decide ((entsOf b (l.take i)).map entL=[])) ((entsOf b (l.take i)).map entL))]) (fun i=>l.length - i) (fun i PS'=>(i≤l.length∧i≤80)∧Ext [] PS PS') 0 ⟨⟨Nat.zero_le _,Nat.zero_le _⟩,Ext.refl _⟩ ?_ ?_)
  · simp only[go_sem,seval, -List.reduceReplicate,Int.natCast_zero]
    rfl
  · rintro i PS1 ⟨hi,hx⟩
    by_cases hlt:i<l.length
    · by_cases hq:(i:Int)<80
      rotate_left
      · simp only[go_sem,seval, -List.reduceReplicate,hlt,List.getElem?_map,List.length_map,hq]
        intro _
        have h80:i=80:=by omega
        subst h80
        exact⟨rfl,hx⟩
      have ha1:l[i]? =some l[i]:=by simp[hlt]
      have ok:=entsOf_ok b (l.take i)
      have hst:entsOf b (l.take (i+1))=entStep b (entsOf b (l.take i)) l[i]:=by
        unfold entsOf
        rw[List.take_succ_eq_append_getElem hlt,List.foldl_append];rfl
      have hp:=place_ l[i] 1099511627776 (by omega) (by omega)
      have hk0:0≤l[i] % 1099511627776:=Int.emod_nonneg _ (by omega)
      have hd:(l[i] % 1099511627776).tdiv 16=l[i] % 1099511627776 / 16:=Int.tdiv_eq_ediv_of_nonneg hk0
      have hfew:(l.take i).length≤80:=by rw[List.length_take];omega
      have hkb:l[i] % 1099511627776<1099511627776:=Int.emod_lt_of_pos _ (by omega)
      simp only[go_sem,seval, -List.reduceReplicate,hlt,List.getElem?_map,Option.map_some,ha1,List.length_map,hq,kidL]
      intro _
      refine pend_intro (hp.call ?_)
      simp only[go_sem,seval, -List.reduceReplicate]
      refine pend_intro ((gk_gen _).call ?_)
      simp only[go_sem,seval, -List.reduceReplicate,hd]
      refine⟨⟨by omega,by omega⟩,pend_intro ((gv_gen _).call ?_)⟩
      simp only[go_sem,seval, -List.reduceReplicate]
      have hmsg:HV.int .i64 1::HV.int .u64 0::hsplice 9 (valL (gv (l[i] % 1099511627776 / 16))) (keyL (gk (l[i] % 1099511627776))++List.drop 8 (List.replicate 8 (HV.int IntKind.u8 0)++[HV.int IntKind.i64 0]++List.replicate 16 (HV.int IntKind.u8 0)++[HV.int IntKind.u64 0]))=msgL ⟨1,0,gk (l[i] % 1099511627776),gv (l[i] % 1099511627776 / 16),0⟩:=by
        have hz1:List.drop 8 (List.replicate 8 (HV.int .u8 0)++[HV.int .i64 0]++List.replicate 16 (HV.int .u8 0)++[HV.int .u64 0])=valL []++[HV.int .u64 0]:=rfl
        rw[hz1,hsplice,List.take_left' (keyL_len _),valL_len,←List.drop_drop,List.drop_left' (keyL_len _),List.drop_left' (valL_len _)]
        rfl
      rw[hmsg]
      have hput:=rput (decide (List.map entL (entsOf b (List.take i l))=[])) (entsOf b (l.take i)) ⟨1,0,gk (l[i] % 1099511627776),gv (l[i] % 1099511627776 / 16),0⟩ rfl ⟨by simp,by simp,gk_ok _,gv_ok _,by simp⟩ ok.ok (by have:=ok.few;omega)
      refine⟨by simp,pend_intro (hput.call ?_)⟩
      simp only
      have hmo:∀e∈putGo (gk (l[i] % 1099511627776)) (gv (l[i] % 1099511627776 / 16)) false (entsOf b (l.take i)),okK e.1∧okV e.2:=fun e he=>by
        rcases putGo_mem _ _ he with rfl | he
        · exact⟨gk_ok _,gv_ok _⟩
        · exact ok.ok e he
      have hml:=putGo_len (k:=gk (l[i] % 1099511627776)) (v:=gv (l[i] % 1099511627776 / 16)) (entsOf b (l.take i)) false
      unfold entStep at hst
      simp only at hst
      generalize putGo (gk (l[i] % 1099511627776)) (gv (l[i] % 1099511627776 / 16)) false (entsOf b (l.take i))=more at hst hmo hml ⊢
      simp only[Bool.false_eq_true,if_false] at hml
      simp only[go_sem,seval, -List.reduceReplicate]
      have hbt:=rents_bytes (decide (List.map entL more=[])) more (by have:=ok.few;omega) hmo
      change Pure _ _ _ (.int .i64 (entsBytes more:Nat)) at hbt
      refine pend_intro (hbt.call ?_)
      by_cases hb:entsBytes more≤b
      · rw[if_pos hb] at hst
        have hb':((entsBytes more:Nat):Int)≤(b:Int):=by omega
        simp only[go_sem,seval, -List.reduceReplicate,hb']
        exact⟨⟨by omega,by omega⟩,i+1,by omega,⟨⟨by omega,by omega⟩,hx⟩,by rw[hst],rfl⟩
      · rw[if_neg hb] at hst
        have hb':¬((entsBytes more:Nat):Int)≤(b:Int):=by omega
        simp only[go_sem,seval, -List.reduceReplicate,hb']
        exact⟨⟨by omega,by omega⟩,i+1,by omega,⟨⟨by omega,by omega⟩,hx⟩,by rw[hst],rfl⟩
    · simp only[go_sem,seval, -List.reduceReplicate,hlt,List.length_map]
      intro _
      rw[List.take_of_length_le (show l.length≤i by omega),List.take_of_length_le (show l.length≤80 by omega)]
      exact⟨rfl,hx⟩
end Go.Proofs.YtajjhaidpagflaaGreat
namespace Go.Proofs.YtajjhaidpagflaaGreat
open Go Go.Eng Go.Ow
open Go.Mo
variable [Toks]
set_option maxRecDepth 20000
attribute [local irreducible] hvc hops hop hplan hdrawP hval1 hopD HLoop
theorem kidOf_succ {p:List Bs} {k:Bs} {i:Nat} (h:i<p.length):kidOf (p.take (i+1)) k=kidOf (p.take i) k+if cmpB p[i] k≤0 then 1 else 0:=by
  unfold kidOf
  rw[List.take_succ_eq_append_getElem h,List.filter_append,List.length_append]
  congr 1
  by_cases hc:cmpB p[i] k≤0<;>simp[hc]
theorem rkid (t:Bool) (p:List Bs) (k:Bs) (hp:∀q∈p,okK q) (hk:okK k) (hl:p.length≤1000):Pure Tryz.prog 26 [.imm t (p.map keyL),.agg (keyL k)] (.int .i64 (kidOf p k)):=by
  refine Pure.of_ext (.int _ _) fun PS=>?_
  have hmx:maxLen=9223372036854775807:=rfl
  refine enter_26 (by unfold Tryz.f26;exact rfl) ?_
  simp only[go_sem,seval, -List.reduceReplicate]
  refine pend_intro (loop_rule (α:=Nat) [false,false,false,false,false,false,false,true,true,true,true,true,true,true,true,true,true,true,true,true,true,true] (fun i=>[(6,.int .i64 i),(5,.int .i64 (kidOf (p.take i) k))]) (fun i=>p.length - i) (fun i PS'=>i≤p.length∧Ext [] PS PS'∧getP PS' PS.length=.arr 0 9 [keyL k] false) 0 ⟨Nat.zero_le _,Ext.app _ _,by simp[getP]⟩ ?_ ?_)
  · simp only[go_sem,seval, -List.reduceReplicate,Int.natCast_zero]
    rfl
  · rintro i PS1 ⟨hi,hx,hg⟩
    by_cases hlt:i<p.length
    · have ha1:p[i]? =some p[i]:=by simp[hlt]
      have hf:=kidOf_succ (k:=k) hlt
      have hle:kidOf (p.take i) k≤i:=by
        unfold kidOf
        exact Nat.le_trans (List.length_filter_le ..) (List.length_take_le ..)
      simp only[go_sem,seval, -List.reduceReplicate,hlt,List.getElem?_map,Option.map_some,ha1,List.length_map,hg]
      intro _
      refine pend_intro ((rkey_cmp _ _ (hp _ (List.getElem_mem hlt)) hk).to ?_)
      by_cases hc:cmpB p[i] k≤0
      · rw[if_pos hc] at hf
        simp only[go_sem,seval, -List.reduceReplicate,hc]
        exact⟨⟨by omega,by omega⟩,⟨by omega,by omega⟩,i+1,by omega,⟨by omega,hx,hg⟩,by rw[hf,Int.natCast_add,Int.natCast_one],rfl⟩
      · rw[if_neg hc] at hf
        simp only[go_sem,seval, -List.reduceReplicate,hc]
        exact⟨⟨by omega,by omega⟩,i+1,by omega,⟨by omega,hx,hg⟩,by rw[hf,Nat.add_zero],rfl⟩
    · simp only[go_sem,seval, -List.reduceReplicate,hlt,List.length_map]
      intro _
      rw[List.take_of_length_le (by omega)]
      exact⟨rfl,hx⟩
theorem rheld (t t':Bool) (all:List (Bs×Bs)) (p:List Bs) (i:Nat) (ok:∀e∈all,okK e.1∧okV e.2) (hp:∀q∈p,okK q) (hl:p.length≤1000) (ha:all.length≤1000):
    Pure Tryz.prog 60 [.imm t (all.map entL),.imm t' (p.map keyL),.int .i64 i] (.imm (decide ((heldOf all p i).map entL=[])) ((heldOf all p i).map entL)):=by
  intro PS
  refine Bld.done (s:=26) (by intro x hx y hy;simp at hx;obtain⟨a,b,_,rfl⟩:=hx;exact sc_ent _ y hy) ?_
  have hmx:maxLen=9223372036854775807:=rfl
  refine enter_60 (by unfold Tryz.f60;exact rfl) ?_
  simp only[go_sem,seval, -List.reduceReplicate]
  refine pend_intro (loop_rule (α:=Nat×HV) [false,false,false,false,false,false,false,false,false,true,true,true,true,true,true,true,true,true,true,true,true,true,true,true,true,true,true,true,true,true,true] (fun b=>[(8,.int .i64 b.1),(7,b.2)]) (fun b=>all.length - b.1) (fun b PS'=>b.1≤all.length∧Bld PS PS' 26 b.2 ((heldOf (all.take b.1) p i).map entL)) (0,.imm true []) ⟨Nat.zero_le _,by simpa [heldOf] using Bld.nil 26 (Ext.refl _)⟩ ?_ ?_)
  · simp only[go_sem,seval, -List.reduceReplicate,Int.natCast_zero]
  · rintro⟨j,y⟩ PS1 ⟨hj,hb⟩
    simp only at hj hb
    by_cases hlt:j<all.length
    · have ha1:all[j]? =some all[j]:=by simp[hlt]
      have oj:=ok _ (List.getElem_mem hlt)
      have hst:heldOf (all.take (j+1)) p i=heldOf (all.take j) p i++(if kidOf p all[j].1=i then [all[j]] else []):=by
        unfold heldOf
        rw[List.take_succ_eq_append_getElem hlt,List.filter_append]
        by_cases hc:kidOf p all[j].1=i<;>simp[hc]
      have hfew:(heldOf (all.take j) p i).length≤j:=Nat.le_trans (List.length_filter_le ..) (List.length_take_le ..)
      simp only[go_sem,seval, -List.reduceReplicate,hlt,List.getElem?_map,Option.map_some,ha1,List.length_map]
      intro _
      refine pend_intro ((rkid t' p _ hp oj.1 hl).call ?_)
      by_cases hc:kidOf p all[j].1=i
      · rw[if_pos hc] at hst
        have hc':((kidOf p all[j].1:Nat):Int)=(i:Int):=by omega
        simp only[go_sem,seval, -List.reduceReplicate,hc',hlt,List.getElem?_map,Option.map_some,ha1,List.length_map,entL_len]
        refine⟨?_,hb.app (by simp[entL_len]) (by simp) (by simp[hroom];omega) fun v PS2 hb2=>?_⟩
        · simp[entL_len]
        refine⟨⟨by omega,by omega⟩,(j+1,v),by simp only;omega,⟨by simp only;omega,by rw[hst];simpa using hb2⟩,.inl rfl,rfl⟩
      · rw[if_neg hc,List.append_nil] at hst
        have hc':¬((kidOf p all[j].1:Nat):Int)=(i:Int):=by omega
        simp only[go_sem,seval, -List.reduceReplicate,hc']
        exact⟨⟨by omega,by omega⟩,(j+1,y),by simp only;omega,⟨by simp only;omega,by rw[hst];exact hb⟩,.inl rfl,rfl⟩
    · simp only[go_sem,seval, -List.reduceReplicate,hlt,List.length_map]
      intro _
      rw[List.take_of_length_le (show all.length≤j by omega)] at hb
      exact hb
theorem fitGo_snoc:∀(n:Nat) (l:List (Bs×Bs)) (e:Bs×Bs),fitGo n (l++[e])=fitGo n l++(if n+entsBytes l+entBytes e≤248 then [e] else [])
  | n,[],e=>by
    simp only[List.nil_append,fitGo,entsBytes,List.map_nil,List.sum_nil,Nat.add_zero]
  | n,x::l,e=>by
    have h1:=fitGo_snoc (n+entBytes x) l e
    have h2:n+entBytes x+entsBytes l+entBytes e=n+entsBytes (x::l)+entBytes e:=by simp only[entsBytes,List.map_cons,List.sum_cons];omega
    rw[h2] at h1
    rw[List.cons_append,fitGo,fitGo,h1]
    split<;>rfl
theorem rfit (t:Bool) (l:List (Bs×Bs)) (ok:∀e∈l,okK e.1∧okV e.2) (hl:l.length≤1000):
    Pure Tryz.prog 62 [.imm t (l.map entL)] (.imm (decide ((fitGo 0 l).map entL=[])) ((fitGo 0 l).map entL)):=by
  intro PS
  refine Bld.done (s:=26) (by intro x hx y hy;simp at hx;obtain⟨a,b,_,rfl⟩:=hx;exact sc_ent _ y hy) ?_
  have hmx:maxLen=9223372036854775807:=rfl
  refine enter_62 (by unfold Tryz.f62;exact rfl) ?_
  simp only[go_sem,seval, -List.reduceReplicate]
  refine pend_intro (loop_rule (α:=Nat×HV) [false,false,false,false,false,false,true,true,true,true,true,true,true,true,true,true,true,true,true,true,true,true,true,true,true,true,true,true,true,true,true,true,true,true,true,true,true] (fun b=>[(5,.int .i64 b.1),(4,.int .i64 (entsBytes (l.take b.1))),(3,b.2)]) (fun b=>l.length - b.1) (fun b PS'=>b.1≤l.length∧Bld PS PS' 26 b.2 ((fitGo 0 (l.take b.1)).map entL)) (0,.imm true []) ⟨Nat.zero_le _,by simpa [fitGo] using Bld.nil 26 (Ext.refl _)⟩ ?_ ?_)
  · simp only[go_sem,seval, -List.reduceReplicate,Int.natCast_zero]
    simp[entsBytes]
  · rintro⟨j,y⟩ PS1 ⟨hj,hb⟩
    simp only at hj hb
    by_cases hlt:j<l.length
    · have ha1:l[j]? =some l[j]:=by simp[hlt]
      have oj:=ok _ (List.getElem_mem hlt)
      have htk:l.take (j+1)=l.take j++[l[j]]:=List.take_succ_eq_append_getElem hlt
      have hst:=fitGo_snoc 0 (l.take j) l[j]
      rw[←htk,Nat.zero_add] at hst
      have hby:entsBytes (l.take (j+1))=entsBytes (l.take j)+entBytes l[j]:=take_sum entBytes l j hlt
      have heb:entBytes l[j]=2+l[j].1.length+l[j].2.length:=rfl
      have hk1:=oj.1
      have hv1:=oj.2
      unfold okK at hk1
      unfold okV at hv1
      have hle:entsBytes (l.take j)≤40*(l.take j).length:=sum_le entBytes 40 _ fun e he=>entBytes_le (ok e (List.mem_of_mem_take he))
      have hlj:(l.take j).length≤j:=List.length_take_le ..
      have hfew:(fitGo 0 (l.take j)).length≤j:=Nat.le_trans (fitGo_sub 0 _).length_le hlj
      have hsum:((entsBytes (l.take j):Nat):Int)+2+(l[j].1.length:Int)+(l[j].2.length:Int)=((entsBytes (l.take (j+1)):Nat):Int):=by rw[hby,heb];push_cast;omega
      simp only[go_sem,seval, -List.reduceReplicate,hlt,List.getElem?_map,Option.map_some,ha1,List.length_map,hsum]
      by_cases hc:entsBytes (l.take (j+1))≤248
      · rw[←hby,if_pos hc] at hst
        have hc':((entsBytes (l.take (j+1)):Nat):Int)≤248:=by omega
        simp only[go_sem,seval, -List.reduceReplicate,hc',hlt,List.getElem?_map,Option.map_some,ha1,List.length_map,entL_len]
        intro _
        refine⟨by omega,by omega,by omega,?_,hb.app (by simp[entL_len]) (by simp) (by simp[hroom];omega) fun v PS2 hb2=>?_⟩
        · simp[entL_len]
        refine⟨⟨by omega,by omega⟩,(j+1,v),by simp only;omega,⟨by simp only;omega,by rw[hst];simpa using hb2⟩,.inl rfl,rfl,rfl⟩
      · rw[←hby,if_neg hc,List.append_nil] at hst
        have hc':¬((entsBytes (l.take (j+1)):Nat):Int)≤248:=by omega
        simp only[go_sem,seval, -List.reduceReplicate,hc']
        intro _
        exact⟨by omega,by omega,by omega,⟨by omega,by omega⟩,(j+1,y),by simp only;omega,⟨by simp only;omega,by rw[hst];exact hb⟩,.inl rfl,rfl,rfl⟩
    · simp only[go_sem,seval, -List.reduceReplicate,hlt,List.length_map]
      intro _
      rw[List.take_of_length_le (show l.length≤j by omega)] at hb
      exact hb
end Go.Proofs.YtajjhaidpagflaaGreat
namespace Go.Proofs.YtajjhaidpagflaaGreat
open Go Go.Eng Go.Ow
open Go.Mo
variable [Toks]
set_option maxRecDepth 20000
attribute [local irreducible] hvc hops hop hplan hdrawP hval1 hopD HLoop
theorem orderB_succ {l:List Bs} {i:Nat} (h:i<l.length):orderB (l.take (i+1))=insB (orderB (l.take i)) l[i]:=by
  unfold orderB
  rw[List.take_succ_eq_append_getElem h,List.foldl_append];rfl
theorem rorder (t:Bool) (l:List Bs) (ok:∀q∈l,okK q) (hl:l.length≤1000):Pure Tryz.prog 170 [.imm t (l.map keyL)] (.imm (decide ((orderB l).map keyL=[])) ((orderB l).map keyL)):=by
  intro PS
  refine Bld.done (s:=9) (by intro x hx y hy;simp at hx;obtain⟨a,_,rfl⟩:=hx;exact sc_key _ y hy) ?_
  have hmx:maxLen=9223372036854775807:=rfl
  refine enter_170 (by unfold Tryz.f170;exact rfl) ?_
  simp only[go_sem,seval, -List.reduceReplicate]
  refine pend_intro (loop_rule (α:=Nat×HV) [false,false,false,false,false,true,true,true,true,true,true,true,true,true,true,true,true,true,true,true,true,true,true,true,true,true,true,true,true,true,true,true,true,true,true,true,true,true,true,true,true,true,true,true,true,true,true,true,true,true,true,true,true,true,true,true,true,true,true,true,true,true,true,true,true,true,true,true] (fun b=>[(4,.int .i64 b.1),(3,b.2)]) (fun b=>l.length - b.1) (fun b PS'=>b.1≤l.length∧Bld PS PS' 9 b.2 ((orderB (l.take b.1)).map keyL)) (0,.imm true []) ⟨Nat.zero_le _,by simpa [orderB] using Bld.nil 9 (Ext.refl _)⟩ ?_ ?_)
  · simp only[go_sem,seval, -List.reduceReplicate,Int.natCast_zero]
  · rintro⟨i,y⟩ PS1 ⟨hi,hb⟩
    simp only at hi hb
    by_cases hlt:i<l.length
    · have ha1:l[i]? =some l[i]:=by simp[hlt]
      have oi:=ok _ (List.getElem_mem hlt)
      have hst:=orderB_succ hlt
      have hpv:=(orderB_ok (l:=l.take i) fun q hq=>ok q (List.mem_of_mem_take hq)).1
      have hfew:(orderB (l.take i)).length≤i:=Nat.le_trans hpv.few (List.length_take_le ..)
      generalize orderB (l.take i)=out at hb hst hpv hfew
      simp only[go_sem,seval, -List.reduceReplicate,hlt,List.getElem?_map,Option.map_some,ha1,List.length_map]
      intro _
      refine pend_intro ((rkey_check _ oi).call ?_)
      simp only[go_sem,seval, -List.reduceReplicate]
      rcases hb.1 with ⟨hR,rfl⟩ | ⟨hR,p,ver,rfl,hp,hg⟩
      · have h0:out=[]:=List.map_eq_nil_iff.1 hR
        subst h0
        refine pend_intro (loop_rule (α:=Nat) [false,false,false,false,false,false,false,false,false,false,false,false,false,false,false,false,false,false,false,true,true,true,true,true,true,true,true,true,true,true,true,true,true,true,true,true,true] (fun a=>[(5,.int .i64 a)]) (fun a=>1 - a) (fun a PS'=>a=0∧PS'=PS1) 0 ⟨rfl,rfl⟩ ?_ ?_)
        · simp only[go_sem,seval, -List.reduceReplicate,Int.natCast_zero]
        · rintro a PS2 ⟨rfl,hPS⟩
          obtain rfl:PS1=PS2:=hPS.symm
          simp only[go_sem,seval, -List.reduceReplicate,Int.natCast_zero,hlt,List.getElem?_map,Option.map_some,ha1,List.length_map]
          refine⟨by simp,by simp,by simp,by simp,by simp,by simp[keyL_len],.inl ⟨by simp,by simp,.inl ⟨⟨by omega,by omega⟩,(i+1,.sl PS1.length 2 0 1 none),by simp only;omega,⟨by simp only;omega,?_⟩,.inl rfl,rfl⟩⟩⟩
          have e:insB [] l[i]=[l[i]]:=by simp[insB]
          rw[hst,e]
          exact⟨.inr ⟨by simp,PS1.length,2,by simp,hb.ext.1,getP_last _ _⟩,by simp[keyL_len],hb.ext.trans (Ext.app _ _)⟩
      · refine pend_intro (loop_rule (α:=Nat) [false,false,false,false,false,false,false,false,false,false,false,false,false,false,false,false,false,false,false,true,true,true,true,true,true,true,true,true,true,true,true,true,true,true,true,true,true] (fun a=>[(5,.int .i64 a)]) (fun a=>out.length - a) (fun a PS'=>(a≤out.length∧∀j,j<a→∀q,out[j]? =some q→cmpB q l[i]<0)∧PS'=PS1) 0 ⟨⟨Nat.zero_le _,fun j hj=>absurd hj (Nat.not_lt_zero j)⟩,rfl⟩ ?_ ?_)
        · simp only[go_sem,seval, -List.reduceReplicate,Int.natCast_zero]
        · rintro a PS2 ⟨⟨ha,hbl⟩,hPS⟩
          obtain rfl:PS1=PS2:=hPS.symm
          have hy:∀Q,getP (PS1++[Q]) p=.arr ver 9 (out.map keyL) true:=fun Q=>getP_app [Q] hg
          have hlm:(List.map keyL out).length=out.length:=List.length_map ..
          by_cases hal:a<out.length
          · have hq:out[a]? =some out[a]:=by simp[hal]
            have oq:=hpv.ok _ (List.getElem_mem hal)
            simp only[go_sem,seval, -List.reduceReplicate,hal,hg,hlt,List.getElem?_map,Option.map_some,ha1,hq,List.length_map]
            refine pend_intro ((rkey_cmp _ _ oq oi).to ?_)
            by_cases hc:cmpB out[a] l[i]<0
            · simp only[go_sem,seval, -List.reduceReplicate,hc]
              refine⟨⟨by omega,by omega⟩,a+1,by omega,⟨by omega,fun j hj q hq2=>?_⟩,rfl⟩
              rcases Nat.lt_or_ge j a with h | h
              · exact hbl j h q hq2
              · have:j=a:=by omega
                subst this
                rw[hq] at hq2;cases hq2;exact hc
            · by_cases he:out[a]=l[i]
              · simp only[go_sem,seval, -List.reduceReplicate,hc,hal,hg,hlt,List.getElem?_map,Option.map_some,ha1,hq,List.length_map,hcmp_key oq,he]
                rw[if_neg (by rw[cmpB_self];omega),if_pos (by rw[hcmp_key oi];simp)]
                have hbe:kbelow l[i] out=a:=kbelow_is ha hbl fun q hq2=>by rw[hq] at hq2;cases hq2;omega
                have hins:insB out l[i]=out:=by unfold insB;rw[hbe,if_pos (by rw[hq,he])]
                refine⟨⟨by omega,by omega⟩,(i+1,.sl p ver 0 out.length none),by simp only;omega,⟨by simp only;omega,?_⟩,.inl rfl,rfl⟩
                rw[hst,hins]
                rw[hlm] at hb
                exact hb
              · simp only[go_sem,seval, -List.reduceReplicate,hc,hal,hg,hlt,List.getElem?_map,Option.map_some,ha1,hq,List.length_map,hcmp_key oq,he,hy]
                have hbe:kbelow l[i] out=a:=kbelow_is ha hbl fun q hq2=>by rw[hq] at hq2;cases hq2;omega
                have hne:out[a]? ≠some l[i]:=by rw[hq];exact fun h=>he (Option.some.inj h)
                have hins:insB out l[i]=out.take a++(l[i]::out.drop a):=by unfold insB;rw[hbe,if_neg hne]
                have e1:List.take (out.length - a) (List.drop a (List.map keyL out))=List.drop a (List.map keyL out):=List.take_of_length_le (by simp)
                have e2:(List.take a (List.map keyL out)).length=a:=by simp;omega
                have e3:(List.drop a (List.map keyL out)).length=out.length - a:=by simp
                simp only[e1,e2,e3]
                refine⟨hR,by omega,hR,ha,ha,by simp,⟨by omega,by omega⟩,⟨hR,ha⟩,by simp[keyL_len],.inl ⟨⟨by omega,by omega⟩,⟨hR,ha⟩,by omega,.inl ⟨⟨by omega,by omega⟩,⟨by omega,by omega⟩,(i+1,.sl PS1.length 2 0 (a+1+(out.length - a)) none),by simp only;omega,⟨by simp only;omega,?_⟩,.inl rfl,rfl⟩⟩⟩
                have hrow:List.take a (List.map keyL out)++[keyL l[i]]++List.drop a (List.map keyL out)=List.map keyL (out.take a++(l[i]::out.drop a)):=by simp[List.map_take,List.map_drop]
                have hln:a+1+(out.length - a)=(List.map keyL (out.take a++(l[i]::out.drop a))).length:=by simp;omega
                rw[hst,hins,hrow]
                simp only
                rw[hln]
                exact⟨.inr ⟨by simp,PS1.length,2,rfl,hb.ext.1,getP_last _ _⟩,fun r hr=>(by obtain⟨q,_,rfl⟩:=List.mem_map.1 hr;exact keyL_len q),hb.ext.trans (Ext.app _ _)⟩
          · simp only[go_sem,seval, -List.reduceReplicate,hal,hg,hlt,List.getElem?_map,Option.map_some,ha1,List.length_map,hy]
            have hbe:kbelow l[i] out=a:=kbelow_is ha hbl fun q hq2=>by have:=(List.getElem?_eq_some_iff.1 hq2).1;omega
            have hne:out[a]? ≠some l[i]:=fun h=>by have:=(List.getElem?_eq_some_iff.1 h).1;omega
            have hins:insB out l[i]=out.take a++(l[i]::out.drop a):=by unfold insB;rw[hbe,if_neg hne]
            have e1:List.take (out.length - a) (List.drop a (List.map keyL out))=List.drop a (List.map keyL out):=List.take_of_length_le (by simp)
            have e2:(List.take a (List.map keyL out)).length=a:=by simp;omega
            have e3:(List.drop a (List.map keyL out)).length=out.length - a:=by simp
            simp only[e1,e2,e3]
            refine⟨hR,by omega,hR,ha,ha,by simp,⟨by omega,by omega⟩,⟨hR,ha⟩,by simp[keyL_len],.inl ⟨⟨by omega,by omega⟩,⟨hR,ha⟩,by omega,.inl ⟨⟨by omega,by omega⟩,⟨by omega,by omega⟩,(i+1,.sl PS1.length 2 0 (a+1+(out.length - a)) none),by simp only;omega,⟨by simp only;omega,?_⟩,.inl rfl,rfl⟩⟩⟩
            have hrow:List.take a (List.map keyL out)++[keyL l[i]]++List.drop a (List.map keyL out)=List.map keyL (out.take a++(l[i]::out.drop a)):=by simp[List.map_take,List.map_drop]
            have hln:a+1+(out.length - a)=(List.map keyL (out.take a++(l[i]::out.drop a))).length:=by simp;omega
            rw[hst,hins,hrow]
            simp only
            rw[hln]
            exact⟨.inr ⟨by simp,PS1.length,2,rfl,hb.ext.1,getP_last _ _⟩,fun r hr=>(by obtain⟨q,_,rfl⟩:=List.mem_map.1 hr;exact keyL_len q),hb.ext.trans (Ext.app _ _)⟩
    · simp only[go_sem,seval, -List.reduceReplicate,hlt,List.length_map]
      intro _
      rw[List.take_of_length_le (show l.length≤i by omega)] at hb
      exact hb
end Go.Proofs.YtajjhaidpagflaaGreat
namespace Go.Proofs.YtajjhaidpagflaaGreat
open Go Go.Eng Go.Ow
open Go.Mo
variable [Toks]
set_option maxRecDepth 20000
attribute [local irreducible] hvc hops hop hplan hdrawP hval1 hopD HLoop
noncomputable def pvStep (out:List Bs) (x:Int):List Bs:=if (orderB (out++[gk x])).length≤3 then orderB (out++[gk x]) else out
noncomputable def pivOf (l:List Int):List Bs:=l.foldl pvStep []
theorem pvStep_ok {out:List Bs} (x:Int) (h:PvOk 3 out):PvOk 3 (pvStep out x)∧(1≤out.length→1≤(pvStep out x).length):=by
  have ho:=orderB_ok (l:=out++[gk x]) fun q hq=>by
    rcases List.mem_append.1 hq with hq | hq
    · exact h.ok q hq
    · simp at hq;subst hq;exact gk_ok x
  unfold pvStep
  split
  · rename_i hl
    exact⟨⟨ho.1.up,hl,ho.1.ok⟩,fun _=>ho.2 (by simp)⟩
  · exact⟨h,fun h1=>h1⟩
theorem pivOf_ok (l:List Int):PvOk 3 (pivOf l):=by
  have:∀(l:List Int) (o:List Bs),PvOk 3 o→PvOk 3 (l.foldl pvStep o):=by
    intro l
    induction l with
    | nil=>intro o h;exact h
    | cons x l ih=>intro o h;exact ih _ (pvStep_ok x h).1
  exact this l [] ⟨List.Pairwise.nil,by simp,by simp⟩
theorem pivOf_one (x:Int):pivOf [x]=[gk x]:=by
  have e:orderB [gk x]=[gk x]:=by simp[orderB,insB]
  simp[pivOf,pvStep,e]
theorem pivOf_some (x:Int) (l:List Int):1≤(pivOf (x::l)).length:=by
  have:∀(l:List Int) (o:List Bs),PvOk 3 o→1≤o.length→1≤(l.foldl pvStep o).length:=by
    intro l
    induction l with
    | nil=>intro o _ h;exact h
    | cons x l ih=>intro o h h1;exact ih _ (pvStep_ok x h).1 ((pvStep_ok x h).2 h1)
  have h1:=pivOf_ok [x]
  have h2:1≤(pivOf [x]).length:=by rw[pivOf_one];exact Nat.le_refl _
  exact this l _ h1 h2
/-! The plans of Pivots,its Order a call that may be given a piece. -/
def pu2:Pu:=[(5,0)]
@[go_sem ↓,go_sem] theorem pu2_k:List.lookup 5 pu2=some 0:=id (by kernel_rfl)
@[go_sem ↓,go_sem] theorem pu2_o:List.lookup 170 pu2=none:=id (by kernel_rfl)
def plP (n:Nat):Plan:=
  match n with
  | 5=>.one 0 <| .one 1 <| .one 3 <| .one 4 <| .one 5 <| .one 6 <| .alt 2 [6,5] (.one 7 <| .one 8 <| .alt 9 [] (.alt 10 [] (.one 11 <| .done) <| .none) <| .none) <| .none
  | _=>.done
@[go_sem] theorem planP_5:plP 5=(.one 0 <| .one 1 <| .one 3 <| .one 4 <| .one 5 <| .one 6 <| .alt 2 [6,5] (.one 7 <| .one 8 <| .alt 9 [] (.alt 10 [] (.one 11 <| .done) <| .none) <| .none) <| .none):=id rfl
def tbP (n:Nat):List Row:=
  match n with
  | 5=>[⟨262144,0,0,0⟩,⟨524288,32,0,0⟩,⟨1048576,786432,3,5⟩,⟨2097152,1,0,0⟩,⟨4194304,64,0,0⟩,⟨8388608,6291456,24,1⟩,⟨16777216,8388608,32,2⟩,⟨33554432,16777216,68,0⟩,⟨67108864,33554432,128,0⟩,⟨134217728,68157440,388,5⟩,⟨268435456,134217728,512,5⟩,⟨128,268435456,2047,0⟩]
  | _=>[]
theorem enterP {c:Code} {args:List HV} {PS:PL} {K:HV→PL→Prop} (hc:Tryz.f116.body=some c) (h:hvc (hop Tryz.prog) (drawBy Tryz.prog pu2 plP) c (hret Tryz.prog [.tmp 4] K) (hframe 35 args) PS):HCall Tryz.prog 116 args PS K:=by
  have hp:(match Tryz.f116.body with | some c=>plansOk pu2 tbP plP c | none=>true)=true:=by kernel_rfl
  rw[hc] at hp
  refine hcall_of_plans tbP plP pu2 mixed Tryz.func116 hc hp ?_
  rw[Tryz.results116,Tryz.ntmps116]
  exact h
theorem gen_pivots (t:Bool) (l:List Int):Pure Tryz.prog 116 [.imm t (l.map kidL),.int .i64 3] (.imm (decide ((pivOf (l.take 20)).map keyL=[])) ((pivOf (l.take 20)).map keyL)):=by
  refine Pure.of_ext (sc_rows _ keyL _ sc_key) fun PS=>?_
  have hmx:maxLen=9223372036854775807:=rfl
  refine enterP (by unfold Tryz.f116;exact rfl) ?_
  simp only[go_sem,seval, -List.reduceReplicate]
  refine pend_intro (loop_rule (α:=Nat) [false,false,false,false,false,false,false,true,true,true,true,true,true,true,true,true,true,true,true,true,true,true,true,true,true,true,true,true,true,true,true,true,true,true] (fun i=>[(6,.int .i64 i),(5,.imm (decide ((pivOf (l.take i)).map keyL=[])) ((pivOf (l.take i)).map keyL))]) (fun i=>l.length - i) (fun i PS'=>(i≤l.length∧i≤20)∧Ext [] PS PS') 0 ⟨⟨Nat.zero_le _,Nat.zero_le _⟩,Ext.refl _⟩ ?_ ?_)
  · simp only[go_sem,seval, -List.reduceReplicate,Int.natCast_zero]
    rfl
  · rintro i PS1 ⟨hi,hx⟩
    by_cases hlt:i<l.length
    · have ha1:l[i]? =some l[i]:=by simp[hlt]
      by_cases hq:(i:Int)<20
      · have ok:=pivOf_ok (l.take i)
        have hst:pivOf (l.take (i+1))=pvStep (pivOf (l.take i)) l[i]:=by
          unfold pivOf
          rw[List.take_succ_eq_append_getElem hlt,List.foldl_append];rfl
        unfold pvStep at hst
        generalize pivOf (l.take i)=out at hst ok ⊢
        simp only[go_sem,seval, -List.reduceReplicate,hlt,List.getElem?_map,Option.map_some,ha1,List.length_map,hq,kidL]
        intro _
        have hk9:∀r∈List.map keyL out,r.length=9:=fun r hr=>by obtain⟨q,_,rfl⟩:=List.mem_map.1 hr;exact keyL_len q
        have hf:=ok.few
        refine⟨hk9,by simp,⟨by omega,by omega⟩,pend_intro ((gk_gen _).to ?_)⟩
        simp only[go_sem,seval, -List.reduceReplicate,List.length_map]
        have hm:List.map keyL out++[keyL (gk l[i])]=List.map keyL (out++[gk l[i]]):=by simp
        have hko:∀q∈out++[gk l[i]],okK q:=fun q hq=>by
          rcases List.mem_append.1 hq with hq | hq
          · exact ok.ok q hq
          · simp at hq;subst hq;exact gk_ok _
        have hg:getP (PS1++[Piece.arr 1 9 (List.map keyL out++[keyL (gk l[i])]) true]) PS1.length=.arr 1 9 (List.map keyL (out++[gk l[i]])) true:=by rw[hm];exact getP_last _ _
        have hz:FrzV PS1.length 1 (List.map keyL (out++[gk l[i]])) (.sl PS1.length 1 0 (out.length+1) none) (.imm false (List.map keyL (out++[gk l[i]]))):=by
          have:=FrzV.sl (n:=PS1.length) (ver:=1) (E:=List.map keyL (out++[gk l[i]])) 0 (out.length+1) none (by simp)
          rwa [List.drop_zero,List.take_of_length_le (by simp)] at this
        have hF:=FStar.step hg (FrzL.tup (.cons hz (.nil _ _ _))) (FrzPS.only (getP_lt hg)) (.refl _ _)
        have hset:List.set (PS1++[Piece.arr 0 9 (List.map keyL out) true]) PS1.length (Piece.arr (0+1) 9 (List.drop 0 (List.map keyL out)++[keyL (gk l[i])]) true)=PS1++[Piece.arr 1 9 (List.map keyL out++[keyL (gk l[i])]) true]:=by simp[List.set_append_right]
        refine⟨by simp[keyL_len],.inl ⟨⟨by omega,by omega⟩,pend_intro ?_⟩⟩
        rw[hset]
        refine(Pure.eat (rorder false _ hko (by simp;omega)) hF).mono ?_
        rintro _ PS2 ⟨rfl,rfl⟩
        have hml:=(orderB_ok hko).1.few
        generalize orderB (out++[gk l[i]])=more at hst hml ⊢
        by_cases hb:more.length≤3
        · rw[if_pos hb] at hst
          have hb':((more.length:Nat):Int)≤3:=by omega
          simp only[go_sem,seval, -List.reduceReplicate,hb',List.length_map]
          intro _
          exact⟨⟨by omega,by omega⟩,i+1,by omega,⟨⟨by omega,by omega⟩,hx.trans (Ext.app PS1 _)⟩,by rw[hst],rfl⟩
        · rw[if_neg hb] at hst
          have hb':¬((more.length:Nat):Int)≤3:=by omega
          simp only[go_sem,seval, -List.reduceReplicate,hb',List.length_map]
          intro _
          exact⟨⟨by omega,by omega⟩,i+1,by omega,⟨⟨by omega,by omega⟩,hx.trans (Ext.app PS1 _)⟩,by rw[hst],rfl⟩
      · simp only[go_sem,seval, -List.reduceReplicate,hlt,List.getElem?_map,List.length_map,hq]
        intro _
        have h20:i=20:=by omega
        subst h20
        exact⟨rfl,hx⟩
    · simp only[go_sem,seval, -List.reduceReplicate,hlt,List.length_map]
      intro _
      rw[List.take_of_length_le (show l.length≤i by omega),List.take_of_length_le (show l.length≤20 by omega)]
      exact⟨rfl,hx⟩
end Go.Proofs.YtajjhaidpagflaaGreat
namespace Go.Proofs.YtajjhaidpagflaaGreat
open Go Go.Eng Go.Mo
variable [Toks]
set_option maxRecDepth 20000
attribute [local irreducible] hvc hops hop hplan hdrawP hval1 hopD HLoop
end Go.Proofs.YtajjhaidpagflaaGreat
