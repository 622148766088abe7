/-
How pieces of memory stand behind a change: a new block, a row that is written, a row that grows.
No conditions.
-/
import Derived.Test.YtbmibhjjogobhaaGreatQEngG
import Derived.Laws.AppendOwn
import Derived.Laws.MakeOwn
set_option linter.unusedSectionVars false
set_option linter.unusedSimpArgs false
set_option linter.unusedVariables false
namespace Go.Eng
open Go
variable [zB]
theorem uP.mono {M M':Nat→Prop} {e e':List Pos} {w w':World} {E:List (List HV)} {opn:Bool} {b o sz cap:Nat} (h:uP M e w E opn b o sz cap)
  (hs:vo M w M' w') (he:qv e e') (hb:w'.heap[b]? =w.heap[b]?):uP M' e' w' E opn b o sz cap:=by
 obtain⟨h1,h2,h3,cs,ty,h4,h5,h6,h7⟩:=h
 refine⟨h1,h2,h3,cs,ty,hb.trans h4,h5,h6,fun i l k x hi hk=>?_⟩
 obtain⟨u,a1,a2,a3⟩:=h7 i l k x hi hk
 exact⟨u,a1,a2,a3.mono hs he⟩
theorem yK.mono {M M':Nat→Prop} {e e':List Pos} {w w':World} {D D':Nat→Prop} {q:zC} {p:Pos} (h:yK M e w D q p) (hs:vo M w M' w') (he:qv e e')
  (hD:∀b,D' b↔D b) (hb:∀b,D b→w'.heap[b]? =w.heap[b]?) (hlt:∀b,D b→b<w.heap.size) (hM:∀b,D b→M' b):yK M' e' w' D' q p:=by
 have hDD:D'=D:=funext fun b=>propext (hD b)
 subst hDD
 unfold yK at h ⊢
 cases q with
 | dead=>exact h
 | arr ver sz E opn=>
  cases hk:p.kind with
  | arr b o sz' cap=>
   simp only[hk] at h ⊢
   obtain⟨h1,h2,h3,h4⟩:=h
   exact⟨h1,h2,h3,h4.mono hs he (hb b ((h3 b).2 rfl))⟩
  | nil=>simp only[hk] at h ⊢;exact h
  | root v=>simp only[hk] at h
  | dead=>simp only[hk] at h
 | map ver clock k E=>
  cases hk:p.kind with
  | root v=>
   simp only[hk] at h ⊢
   obtain⟨h1,b,h2,h3,es,h4,h5,h6⟩:=h
   exact⟨h1,b,h2,h3,es,(hb b ((h3 b).2 rfl)).trans h4,h5,fun i n x y u hi hu=>by
    obtain⟨a1,a2,a3,a4⟩:=h6 i n x y u hi hu
    exact⟨a1,a2,a3,a4.mono hs he⟩⟩
  | arr b o sz' cap=>simp only[hk] at h
  | nil=>simp only[hk] at h
  | dead=>simp only[hk] at h
 | mapT ver clock k E=>
  cases hk:p.kind with
  | root v=>
   simp only[hk] at h ⊢
   obtain⟨h1,b,h2,h3,es,h4,h5,h6⟩:=h
   exact⟨h1,b,h2,h3,es,(hb b ((h3 b).2 rfl)).trans h4,h5,fun i n x y u hi hu=>by
    obtain⟨a1,a2,a3,a4⟩:=h6 i n x y u hi hu
    exact⟨a1,a2,a3,a4.mono hs he⟩⟩
  | arr b o sz' cap=>simp only[hk] at h
  | nil=>simp only[hk] at h
  | dead=>simp only[hk] at h
 | iter ver x since seen last=>
  cases hk:p.kind with
  | root v=>
   simp only[hk] at h ⊢
   obtain⟨h1,b,h2,h3,m,h4,h5⟩:=h
   exact⟨h1,b,h2,h3,m,h4.mono hs he,(hb b ((h3 b).2 rfl)).trans h5⟩
  | arr b o sz' cap=>simp only[hk] at h
  | nil=>simp only[hk] at h
  | dead=>simp only[hk] at h
 | rnd ver st pd fr ps c1 c2 gl=>
  cases hk:p.kind with
  | root v=>
   simp only[hk] at h ⊢
   obtain⟨h1,l,h2,h3,r,h4,h5,h6,h7,h8,h9,h10,h11⟩:=h
   exact⟨h1,l,h2,h3,r,(hb l ((h3 l).2 rfl)).trans h4,h5,h6,h7,h8,h9,h10,fun i x u hi hu=>(h11 i x u hi hu).mono hs he⟩
  | arr b o sz' cap=>simp only[hk] at h
  | nil=>simp only[hk] at h
  | dead=>simp only[hk] at h
section
variable {F:Nat→Prop} {e e':List Pos} {D D':Nat→Nat→Prop} {PS PS':PL} {w w':World}
theorem Rel.next (h:Rel F e D PS w) (ht:Tr e D w e' D' w') (hlen:e'.length=PS'.length) (hout:∀i b,D' i b→i<PS'.length∧b<w'.heap.size∧¬F b)
  (hap:∀i j b,D' i b→D' j b→i=j)
  (hp:∀(i:Nat) (q:zC) (p:Pos),PS'[i]? =some q→e'[i]? =some p→
   (PS[i]? =some q∧e[i]? =some p∧(∀b,D' i b↔D i b)∧∀b,D i b→w'.heap[b]? =w.heap[b]?)∨yK (Mut F D') e' w' (D' i) q p):Rel F e' D' PS' w' where
 len:=hlen
 out:=hout
 fore:=fun b hb=>Nat.lt_of_lt_of_le (h.fore b hb) ht.size
 apart:=hap
 holds:=fun i q p hq hpp=>by
  rcases hp i q p hq hpp with ⟨h1,h2,h3,h4⟩ | h'
  ·exact(h.holds i q p h1 h2).mono ht.stays ht.env h3 h4 (fun b hb=>(h.out i b hb).2.1) (fun b hb=>.inr ⟨i,(h3 b).2 hb⟩)
  ·exact h'
/-- Only the count of what was drawn has turned,or nothing. -/
theorem Tr.same (hh:w'.heap=w.heap) (ho:w'.os=w.os) (ht:w'.tape=w.tape) (hu:w'.output=w.output):Tr e D w e D w':=
 ⟨ho,ht,hu,by rw[hh];exact Nat.le_refl _,fun b _ _=>by rw[hh],fun i b h=>.inl ⟨i,h⟩,.refl e⟩
theorem Rel.same (h:Rel F e D PS w) (hh:w'.heap=w.heap) (ho:w'.os=w.os) (ht:w'.tape=w.tape) (hu:w'.output=w.output):Rel F e D PS w':=
 h.next (Tr.same hh ho ht hu) h.len (fun i b hb=>by rw[hh];exact h.out i b hb) h.apart (fun i q p hq hp=>.inl ⟨hq,hp,fun _=>Iff.rfl,fun b _=>by rw[hh]⟩)
/-- A new block that is nobody's. -/
theorem Tr.alloc (o:Obj):Tr e D w e D (w.alloc o):=
 ⟨rfl,rfl,rfl,by simp,fun b hb _=>RowKit.Below.heap_alloc w o b hb,fun i b h=>.inl ⟨i,h⟩,.refl e⟩
theorem Rel.alloc (h:Rel F e D PS w) (o:Obj):Rel F e D PS (w.alloc o):=
 h.next (Tr.alloc o) h.len (fun i b hb=>⟨(h.out i b hb).1,by have:=(h.out i b hb).2.1;simp;omega,(h.out i b hb).2.2⟩) h.apart
  (fun i q p hq hp=>.inl ⟨hq,hp,fun _=>Iff.rfl,fun b hb=>RowKit.Below.heap_alloc w o b (h.out i b hb).2.1⟩)
/-- A new block that is a new piece. -/
def we (D:Nat→Nat→Prop) (n b:Nat):Nat→Nat→Prop:=fun i x=>D i x∨(i=n∧x=b)
theorem Tr.add (o:Obj) (n:Nat) (p:Pos):Tr e D w (e++[p]) (we D n w.heap.size) (w.alloc o):=
 ⟨rfl,rfl,rfl,by simp,fun b hb _=>RowKit.Below.heap_alloc w o b hb,fun i b h=>by
  rcases h with h | ⟨_,rfl⟩
  ·exact .inl ⟨i,h⟩
  ·exact .inr (Nat.le_refl _),qv.snoc e p⟩
theorem Rel.add (h:Rel F e D PS w) (cs:Array Value) (ty:TypeId) (sz cap:Nat) (E:List (List HV)) (opn:Bool) (h1:E.length≤cap) (h2:opn=false→E.length=cap) (h3:cap≤maxLen)
  (h4:cap*sz≤cs.size) (h5:∀l∈E,l.length=sz)
  (h6:∀(i:Nat) (l:List HV) (k:Nat) (x:HV),E[i]? =some l→l[k]? =some x→∃u,cs[i*sz+k]? =some u∧u.oneCell'=true∧zH (Mut F D) e w x u):
  Rel F (e++[⟨0,.arr w.heap.size 0 sz cap⟩]) (we D PS.length w.heap.size) (PS++[.arr 0 sz E opn]) (w.alloc (.cells cs ty)):=by
 have ht:Tr e D w (e++[⟨0,.arr w.heap.size 0 sz cap⟩]) (we D PS.length w.heap.size) (w.alloc (.cells cs ty)):=Tr.add _ _ _
 refine h.next ht (by simp[h.len]) ?_ ?_ ?_
 ·intro i b hb
  rcases hb with hb | ⟨rfl,rfl⟩
  ·have:=h.out i b hb
   exact⟨by simp;omega,by simp;omega,this.2.2⟩
  ·exact⟨by simp,by simp,fun hf=>Nat.lt_irrefl _ (h.fore _ hf)⟩
 ·intro i j b hi hj
  rcases hi with hi | ⟨rfl,rfl⟩<;>rcases hj with hj | ⟨rfl,hb⟩
  ·exact h.apart i j b hi hj
  ·have:=(h.out i b hi).2.1;omega
  ·have:=(h.out j _ hj).2.1;omega
  ·rfl
 ·intro i q p hq hp
  by_cases hi:i<PS.length
  ·left
   rw[List.getElem?_append_left hi] at hq
   rw[List.getElem?_append_left (by rw[h.len];exact hi)] at hp
   refine⟨hq,hp,fun b=>⟨fun hb=>?_,fun hb=>.inl hb⟩,fun b hb=>RowKit.Below.heap_alloc w _ b (h.out i b hb).2.1⟩
   rcases hb with hb | ⟨rfl,_⟩
   ·exact hb
   ·exact absurd hi (Nat.lt_irrefl _)
  ·right
   have hi':i=PS.length:=by
    have:i<(PS++[zC.arr 0 sz E opn]).length:=by
     rcases Nat.lt_or_ge i (PS++[zC.arr 0 sz E opn]).length with h' | h'
     ·exact h'
     ·rw[List.getElem?_eq_none h'] at hq;cases hq
    simp at this;omega
   subst hi'
   simp at hq
   rw[←h.len] at hp
   simp at hp
   subst hq;subst hp
   refine⟨rfl,rfl,fun x=>⟨fun hx=>?_,fun hx=>.inr ⟨rfl,hx⟩⟩,h1,h2,h3,cs,ty,heap_alloc_new w _,by simpa using h4,h5,fun i l k x hi hk=>?_⟩
   ·rcases hx with hx | ⟨_,hx⟩
    ·exact absurd (h.out _ _ hx).1 (Nat.lt_irrefl _)
    ·exact hx
   ·obtain⟨u,a1,a2,a3⟩:=h6 i l k x hi hk
    exact⟨u,by rw[Nat.zero_add];exact a1,a2,a3.mono ht.stays ht.env⟩
/-- A row is written in place;it may have grown,or be cut at its head. -/
theorem Tr.write {n b:Nat} {t:TypeId} {fr:Nat×Nat} {cur:Array Value} (cs:Array Value) (_hb:w.heap[b]? =some (.cells cur t fr)) (hD:D n b) {p q:Pos} (hp:e[n]? =some p) (hq:q=p∨p.ver<q.ver):
  Tr e D w (e.set n q) D (w.setRow b cs):=by
 refine⟨rfl,rfl,rfl,by simp[World.setRow],fun x hx hn=>setRow_other w b x cs (fun hh=>hn n (hh▸hD)),fun i x h=>.inl ⟨i,h⟩,?_⟩
 rcases hq with rfl | hq
 ·have:e.set n q=e:=by
   apply List.ext_getElem?
   intro m
   rw[List.getElem?_set]
   split
   ·rename_i hm;subst hm;split
    ·exact hp.symm
    ·rename_i hl;rw[List.getElem?_eq_none (by omega)]
   ·rfl
  rw[this];exact .refl e
 ·exact qv.set e n p q hp hq
theorem Rel.write (h:Rel F e D PS w) {n b o sz cap:Nat} {ver ver':Nat} {E E':List (List HV)} {opn opn':Bool} {p:Pos} (hq:zA PS n=.arr ver sz E opn) (hp:e[n]? =some p) (hpv:p.ver=ver)
  (hD:∀x,D n x↔x=b) {t:TypeId} {cur:Array Value} (hb:w.heap[b]? =some (.cells cur t (0,0))) (cs:Array Value) (hv:(ver'=ver∧p.kind=.arr b o sz cap)∨ver<ver')
  (h1:E'.length≤cap) (h2:opn'=false→E'.length=cap) (h3:cap≤maxLen) (h4:o+cap*sz≤cs.size) (h5:∀l∈E',l.length=sz)
  (h6:∀(i:Nat) (l:List HV) (k:Nat) (x:HV),E'[i]? =some l→l[k]? =some x→∃u,cs[o+i*sz+k]? =some u∧u.oneCell'=true∧zH (Mut F D) e w x u):
  Rel F (e.set n ⟨ver',.arr b o sz cap⟩) D (PS.set n (.arr ver' sz E' opn')) (w.setRow b cs)∧Tr e D w (e.set n ⟨ver',.arr b o sz cap⟩) D (w.setRow b cs):=by
 have hn:n<PS.length:=by
  have:=xj hq (by simp)
  exact(List.getElem?_eq_some_iff.1 this).1
 have ht:Tr e D w (e.set n ⟨ver',.arr b o sz cap⟩) D (w.setRow b cs):=Tr.write cs hb ((hD b).2 rfl) hp (by
  rcases hv with ⟨rfl,hk⟩ | hv
  ·left;cases p;simp_all
  ·right;simpa [hpv] using hv)
 refine⟨h.next ht (by simp[h.len]) (fun i x hx=>?_) h.apart (fun i q r hq' hr=>?_),ht⟩
 ·have:=h.out i x hx
  exact⟨by simpa using this.1,by simpa [World.setRow] using this.2.1,this.2.2⟩
 ·by_cases hi:n=i
  ·subst hi
   right
   simp[hn] at hq'
   simp[h.len,hn] at hr
   subst hq';subst hr
   refine⟨rfl,rfl,hD,h1,h2,h3,cs,t,setRow_heap w b cur _ t _ hb,h4,h5,fun i l k x hi hk=>?_⟩
   obtain⟨u,a1,a2,a3⟩:=h6 i l k x hi hk
   exact⟨u,a1,a2,a3.mono ht.stays ht.env⟩
  ·left
   rw[List.getElem?_set_ne hi] at hq'
   rw[List.getElem?_set_ne hi] at hr
   refine⟨hq',hr,fun _=>Iff.rfl,fun x hx=>setRow_other w b x cs (fun hh=>hi ?_)⟩
   subst hh
   exact h.apart n i x ((hD x).2 rfl) hx
/-- A row moves to a new block. -/
def ko (D:Nat→Nat→Prop) (n b:Nat):Nat→Nat→Prop:=fun i x=>if i=n then x=b else D i x
theorem Rel.move (h:Rel F e D PS w) {n sz cap:Nat} {ver ver':Nat} {E E':List (List HV)} {opn opn':Bool} {p:Pos} (hq:zA PS n=.arr ver sz E opn) (hp:e[n]? =some p) (hpv:p.ver=ver)
  (cs:Array Value) (ty:TypeId) (hv:ver<ver')
  (h1:E'.length≤cap) (h2:opn'=false→E'.length=cap) (h3:cap≤maxLen) (h4:cap*sz≤cs.size) (h5:∀l∈E',l.length=sz)
  (h6:∀(i:Nat) (l:List HV) (k:Nat) (x:HV),E'[i]? =some l→l[k]? =some x→∃u,cs[i*sz+k]? =some u∧u.oneCell'=true∧zH (Mut F D) e w x u):
  Rel F (e.set n ⟨ver',.arr w.heap.size 0 sz cap⟩) (ko D n w.heap.size) (PS.set n (.arr ver' sz E' opn')) (w.alloc (.cells cs ty))∧
   Tr e D w (e.set n ⟨ver',.arr w.heap.size 0 sz cap⟩) (ko D n w.heap.size) (w.alloc (.cells cs ty)):=by
 have hn:n<PS.length:=by
  have:=xj hq (by simp)
  exact(List.getElem?_eq_some_iff.1 this).1
 have ht:Tr e D w (e.set n ⟨ver',.arr w.heap.size 0 sz cap⟩) (ko D n w.heap.size) (w.alloc (.cells cs ty)):=
  ⟨rfl,rfl,rfl,by simp,fun b hb _=>RowKit.Below.heap_alloc w _ b hb,fun i b hb=>by
   unfold ko at hb
   split at hb
   ·exact .inr (by omega)
   ·exact .inl ⟨i,hb⟩,qv.set e n p _ hp (by simpa [hpv] using hv)⟩
 refine⟨h.next ht (by simp[h.len]) (fun i x hx=>?_) (fun i j x hi hj=>?_) (fun i q r hq' hr=>?_),ht⟩
 ·unfold ko at hx
  split at hx
  ·rename_i hi;subst hi;subst hx;exact⟨by simpa using hn,by simp,fun hf=>Nat.lt_irrefl _ (h.fore _ hf)⟩
  ·have:=h.out i x hx;exact⟨by simpa using this.1,by simp;omega,this.2.2⟩
 ·unfold ko at hi hj
  split at hi<;>split at hj
  ·omega
  ·have:=(h.out j x hj).2.1;omega
  ·have:=(h.out i x hi).2.1;omega
  ·exact h.apart i j x hi hj
 ·by_cases hi:n=i
  ·subst hi
   right
   simp[hn] at hq'
   simp[h.len,hn] at hr
   subst hq';subst hr
   refine⟨rfl,rfl,fun x=>by simp[ko],h1,h2,h3,cs,ty,heap_alloc_new w _,by simpa using h4,h5,fun i l k x hi hk=>?_⟩
   obtain⟨u,a1,a2,a3⟩:=h6 i l k x hi hk
   exact⟨u,by rw[Nat.zero_add];exact a1,a2,a3.mono ht.stays ht.env⟩
  ·left
   rw[List.getElem?_set_ne hi] at hq'
   rw[List.getElem?_set_ne hi] at hr
   refine⟨hq',hr,fun x=>?_,fun x hx=>RowKit.Below.heap_alloc w _ x (h.out i x hx).2.1⟩
   unfold ko
   rw[if_neg (fun hh=>hi hh.symm)]
end
end Go.Eng
namespace Go.Eng
open Go
variable [zB]
/-- Rows of s cells,as a list of the model's values. -/
structure RowsIn (M:Nat→Prop) (e:List Pos) (w:World) (s:Nat) (E:List (List HV)) (vs:List Value):Prop where
 len:vs.length=E.length*s
 sz:∀r∈E,r.length=s
 one:∀v∈vs,v.oneCell'=true
 rel:∀(i:Nat) (r:List HV) (k:Nat) (y:HV),E[i]? =some r→r[k]? =some y→∃v,vs[i*s+k]? =some v∧zH M e w y v
section
variable {M:Nat→Prop} {e:List Pos} {w:World} {s:Nat} {E N:List (List HV)} {vs ns:List Value}
theorem RowsIn.append (h:RowsIn M e w s E vs) (k:RowsIn M e w s N ns):RowsIn M e w s (E++N) (vs++ns) where
 len:=by simp[h.len,k.len,Nat.add_mul]
 sz:=fun r hr=>by rcases List.mem_append.1 hr with hr | hr;exact h.sz r hr;exact k.sz r hr
 one:=fun v hv=>by rcases List.mem_append.1 hv with hv | hv;exact h.one v hv;exact k.one v hv
 rel:=fun i r j y hi hj=>by
  by_cases hl:i<E.length
  ·rw[List.getElem?_append_left hl] at hi
   obtain⟨v,h1,h2⟩:=h.rel i r j y hi hj
   exact⟨v,by rw[List.getElem?_append_left (List.getElem?_eq_some_iff.1 h1).1];exact h1,h2⟩
  ·rw[List.getElem?_append_right (by omega)] at hi
   obtain⟨v,h1,h2⟩:=k.rel _ r j y hi hj
   refine⟨v,?_,h2⟩
   have:(i - E.length)*s=i*s - E.length*s:=Nat.sub_mul _ _ _
   have h3:E.length*s≤i*s:=Nat.mul_le_mul_right _ (by omega)
   rw[List.getElem?_append_right (by rw[h.len];omega),h.len,←h1]
   congr 1;omega
theorem RowsIn.mono {M':Nat→Prop} {e':List Pos} {w':World} (h:RowsIn M e w s E vs) (hs:vo M w M' w') (he:qv e e'):RowsIn M' e' w' s E vs:=
 ⟨h.len,h.sz,h.one,fun i r k y hi hk=>by obtain⟨v,h1,h2⟩:=h.rel i r k y hi hk;exact⟨v,h1,h2.mono hs he⟩⟩
theorem RowsIn.take (h:RowsIn M e w s E vs) (n:Nat) (hn:n≤E.length):RowsIn M e w s (E.take n) (vs.take (n*s)) where
 len:=by
  have:n*s≤E.length*s:=Nat.mul_le_mul_right _ hn
  simp[h.len,Nat.min_eq_left this,Nat.min_eq_left hn]
 sz:=fun r hr=>h.sz r (List.mem_of_mem_take hr)
 one:=fun v hv=>h.one v (List.mem_of_mem_take hv)
 rel:=fun i r k y hi hk=>by
  rw[List.getElem?_take] at hi
  split at hi
  ·rename_i hlt
   obtain⟨v,h1,h2⟩:=h.rel i r k y hi hk
   have hks:k<s:=by rw[←h.sz r (List.mem_of_getElem? hi)];exact(List.getElem?_eq_some_iff.1 hk).1
   have:(i+1)*s≤n*s:=Nat.mul_le_mul_right _ hlt
   rw[Nat.add_mul] at this
   exact⟨v,by rw[List.getElem?_take_of_lt (by omega)];exact h1,h2⟩
  ·cases hi
theorem RowsIn.drop (h:RowsIn M e w s E vs) (n:Nat):RowsIn M e w s (E.drop n) (vs.drop (n*s)) where
 len:=by simp[h.len,Nat.sub_mul]
 sz:=fun r hr=>h.sz r (List.mem_of_mem_drop hr)
 one:=fun v hv=>h.one v (List.mem_of_mem_drop hv)
 rel:=fun i r k y hi hk=>by
  rw[List.getElem?_drop] at hi
  obtain⟨v,h1,h2⟩:=h.rel _ r k y hi hk
  exact⟨v,by rw[List.getElem?_drop,←h1];congr 1;rw[Nat.add_mul];omega,h2⟩
theorem RowsIn.nil:RowsIn M e w s [] []:=⟨by simp,by simp,by simp,by simp⟩
/-- One row. -/
theorem RowsIn.single {l:List HV} (hl:l.length=s) (hv:vs.length=s) (h1:∀v∈vs,v.oneCell'=true) (hr:∀(k:Nat) (y:HV) (v:Value),l[k]? =some y→vs[k]? =some v→zH M e w y v):RowsIn M e w s [l] vs where
 len:=by simp[hv]
 sz:=by simpa using hl
 one:=h1
 rel:=fun i r k y hi hk=>by
  cases i with
  | zero=>
   simp at hi;subst hi
   have hkl:k<vs.length:=by rw[hv,←hl];exact(List.getElem?_eq_some_iff.1 hk).1
   exact⟨vs[k],by simp[hkl],hr k y vs[k] hk (by simp[hkl])⟩
  | succ i=>simp at hi
/-- What the piece's row wants. -/
theorem RowsIn.cells (h:RowsIn M e w s E vs) (pre post:List Value):∀(i:Nat) (l:List HV) (k:Nat) (x:HV),E[i]? =some l→l[k]? =some x→
  ∃u,(pre++vs++post).toArray[pre.length+i*s+k]? =some u∧u.oneCell'=true∧zH M e w x u:=fun i l k x hi hk=>by
 obtain⟨v,h1,h2⟩:=h.rel i l k x hi hk
 have hlt:=(List.getElem?_eq_some_iff.1 h1).1
 refine⟨v,?_,h.one v (List.mem_of_getElem? h1),h2⟩
 simp only[List.getElem?_toArray]
 rw[List.append_assoc,List.getElem?_append_right (by omega),List.getElem?_append_left (by omega),←h1]
 congr 1;omega
/-- The cells of a piece's row,parted. -/
theorem uP.split {opn:Bool} {b o cap:Nat} (h:uP M e w E opn b o s cap):∃(cs:Array Value) (ty:TypeId) (pre vs post:List Value),w.heap[b]? =some (.cells cs ty (0,0))∧o+cap*s≤cs.size∧
  cs.toList=pre++vs++post∧pre.length=o∧RowsIn M e w s E vs:=by
 obtain⟨hl,_,_,cs,ty,hb,hc,hsz,hcell⟩:=h
 have hle:E.length*s≤cap*s:=Nat.mul_le_mul_right _ hl
 refine⟨cs,ty,cs.toList.take o,(cs.toList.drop o).take (E.length*s),(cs.toList.drop o).drop (E.length*s),hb,hc,?_,?_,?_,hsz,?_,?_⟩
 ·rw[List.append_assoc,List.take_append_drop,List.take_append_drop]
 ·simp;omega
 ·simp;omega
 ·intro v hv
  obtain⟨j,hj,rfl⟩:=List.mem_iff_getElem.1 hv
  have hjl:j<E.length*s:=by simp at hj;omega
  have hs0:0<s:=Nat.pos_of_ne_zero (by rintro rfl;simp at hjl)
  have hi:j / s<E.length:=(Nat.div_lt_iff_lt_mul hs0).2 hjl
  have hr:(E[j / s]).length=s:=hsz _ (List.getElem_mem hi)
  have hk:j % s<(E[j / s]).length:=by rw[hr];exact Nat.mod_lt _ hs0
  obtain⟨u,h1,h2,_⟩:=hcell (j / s) E[j / s] (j % s) (E[j / s])[j % s] (by simp[hi]) (by simp[hk])
  have he:o+j / s*s+j % s=o+j:=by rw[Nat.add_assoc,Nat.mul_comm,Nat.div_add_mod]
  rw[he] at h1
  have:((cs.toList.drop o).take (E.length*s))[j]=u:=by
   simp only[List.getElem_take,List.getElem_drop,Array.getElem_toList]
   have hlt:=(Array.getElem?_eq_some_iff.1 h1)
   exact hlt.2
  rw[this];exact h2
 ·intro i r k y hi hk
  obtain⟨u,h1,h2,h3⟩:=hcell i r k y hi hk
  have hks:k<s:=by rw[←hsz r (List.mem_of_getElem? hi)];exact(List.getElem?_eq_some_iff.1 hk).1
  have hil:i<E.length:=(List.getElem?_eq_some_iff.1 hi).1
  have:(i+1)*s≤E.length*s:=Nat.mul_le_mul_right _ hil
  rw[Nat.add_mul] at this
  refine⟨u,?_,h3⟩
  rw[List.getElem?_take_of_lt (by omega),List.getElem?_drop]
  simpa [Nat.add_assoc] using h1
end
end Go.Eng
namespace Go.Eng
open Go
variable [zB]
def uY (P:Program) (t:TypeId) (PS:PL) (K:HV→PL→Prop):Prop:=
 match qP P t with
 | some l=>K (.ptr PS.length 0 0 0) (PS++[.arr 0 l.length [l] false])
 | none=>False
/-- The cells of a value that may be stored. -/
def hst (x:HV) (K:List HV→Prop):Prop:=
 match x with
 | .agg l=>(∀y∈l,HV.one y=true)∧K l
 | x=>HV.one x=true∧K [x]
def kL (x:HV) (PS:PL) (K:HV→PL→Prop):Prop:=
 hst x fun l=>K (.ptr PS.length 0 0 0) (PS++[.arr 0 l.length [l] false])
def uI (PS:PL) (a x:HV) (K:PL→Prop):Option (Bool×Nat)→Prop
 | some (_,s)=>hst x fun c=>c.length=s∧match a with
  | .ptr n ver i k=>(match zA PS n with
   | .arr ver' sz E opn=>ver=ver'∧∃l,E[i]? =some l∧k+s≤l.length∧K (PS.set n (.arr ver sz (E.set i (zP k c l)) opn))
   | _=>False)
  | _=>False
 | none=>False
/-- Of a slice's type:the element's cells,bytes,zero cells. -/
def yV (P:Program) (t:TypeId):Option (Nat×Nat×List HV):=
 match P.underlying t with
 | some (.slice e)=>match P.info? e with
  | some i=>match i.zero with
   | some z=>if z.cells.size=i.size∧0<i.size∧z.cells.all (·.oneCell') then some (i.size,i.bytes,z.cells.toList.map ofV) else none
   | none=>none
  | none=>none
 | _=>none
def XF (PS:PL) (s b:Nat) (z:List HV) (K:HV→PL→Prop):HV→HV→Prop
 | .int .i64 l,.int .i64 c=>0≤l∧l≤c∧c≤140737488355328∧c*b≤140737488355328∧K (.sl PS.length 0 0 l.toNat (some c.toNat)) (PS++[.arr 0 s (List.replicate c.toNat z) false])
 | _,_=>False
def jr (PS:PL) (l c:HV) (K:HV→PL→Prop):Option (Nat×Nat×List HV)→Prop
 | some (s,b,z)=>XF PS s b z K l c
 | none=>False
section
variable {P:Program} {ds:List Deferred} {F:Nat→Prop} {e e0:List Pos} {D D0:Nat→Nat→Prop} {PS PS':PL} {w w0 w':World} {fr:Fr} {a:Act} {o:Oper} {K:HV→PL→Prop} {Q:Exit→Act→World→Prop}
theorem zy.Xe {e':List Pos} {D':Nat→Nat→Prop} {d:Option Tmp} {x:HV} {u:Value} (hf:zy (Mut F D) e w fr a.tmps) (ht:Tr e D w e' D' w') (hv:zH (Mut F D') e' w' x u):
  zy (Mut F D') e' w' (zV fr d x) (a.put d u).tmps:=(hf.mono ht.stays ht.env).put d hv
/-- An operation that yields a value. -/
theorem uR {e':List Pos} {D':Nat→Nat→Prop} {x:HV} {u:Value} (hd:a.defers=ds) (hf:zy (Mut F D) e w fr a.tmps) (h0:Tr e0 D0 w0 e D w)
  (hrun:(execOp a.eval o).run P w=.ok (.value u) w') (hr:Rel F e' D' PS' w') (ht:Tr e D w e' D' w') (hv:zH (Mut F D') e' w' x u) (hK:K x PS'):
  o.wp P a w (fun a' w'=>∃v PS',K v PS'∧St ds F e0 D0 w0 (zV fr o.dst v) PS' a' w') Q:=by
 unfold Oper.wp
 rw[hrun,Oper.upon_value]
 refine⟨x,PS',hK,?_,e',D',hr,hf.Xe ht hv,h0.trans ht⟩
 cases o.dst<;>exact hd
theorem zDF {e':List Pos} {D':Nat→Nat→Prop} (hd:a.defers=ds) (hf:zy (Mut F D) e w fr a.tmps) (h0:Tr e0 D0 w0 e D w)
  (hrun:(execOp a.eval o).run P w=.ok .skip w') (hr:Rel F e' D' PS' w') (ht:Tr e D w e' D' w') (hK:K .junk PS'):
  o.wp P a w (fun a' w'=>∃v PS',K v PS'∧St ds F e0 D0 w0 (zV fr o.dst v) PS' a' w') Q:=by
 unfold Oper.wp
 rw[hrun,Oper.upon_skip]
 refine⟨.junk,PS',hK,?_,e',D',hr,hf.Xe ht (.junk _),h0.trans ht⟩
 cases o.dst<;>exact hd
/-- The new block's piece. -/
theorem Rel.Yo (h:Rel F e D PS w) {s:Nat} {E:List (List HV)} {vs post:List Value} (ty:TypeId) (cap:Nat) (opn:Bool) (hr:RowsIn (Mut F D) e w s E vs) (h1:E.length≤cap) (h2:opn=false→E.length=cap) (h3:cap≤maxLen)
  (h4:cap*s≤(vs++post).length):
  Rel F (e++[⟨0,.arr w.heap.size 0 s cap⟩]) (we D PS.length w.heap.size) (PS++[.arr 0 s E opn]) (w.alloc (.cells (vs++post).toArray ty)):=
 h.add (vs++post).toArray ty s cap E opn h1 h2 h3 (by simpa using h4) hr.sz (fun i l k x hi hk=>by simpa using hr.cells [] post i l k x hi hk)
theorem zDB (cap sz b:Nat):zH (Mut F (we D PS.length w.heap.size)) (e++[⟨0,.arr b 0 sz cap⟩]) w' (.ptr e.length 0 0 0) (.pointer (some ⟨b,0,none⟩)):=
 .ptr e.length 0 0 0 _ ⟨0,.arr b 0 sz cap⟩ (by simp) (Nat.le_refl _) (fun _=>by simp[kq]) rfl
theorem JL {x:HV} {u:Value} {K:List HV→Prop} (hx:zH (Mut F D) e w x u) (hc:hst x K):
  ∃l,K l∧RowsIn (Mut F D) e w l.length [l] u.cells.toList∧u.cells.size=l.length:=by
 have main:∀l,vi x=l→(∀y∈l,HV.one y=true)→(x.one=true∨∃c,x=.agg c)→K l→∃l,K l∧RowsIn (Mut F D) e w l.length [l] u.cells.toList∧u.cells.size=l.length:=by
  intro l hl h1 ha hK
  obtain⟨hs,hr⟩:=zBz hx ha
  rw[hl] at hs hr
  refine⟨l,hK,.single rfl (by simpa using hs) (fun v hv=>?_) (fun k y v hk hv=>hr k y v hk (by simpa using hv)),hs⟩
  obtain⟨j,hj,rfl⟩:=List.mem_iff_getElem.1 hv
  have hj':j<l.length:=by rw[←hs];simpa using hj
  exact zC6 (hr j l[j] _ (by simp[hj']) (by simp at hj;simp[hj])) (h1 _ (List.getElem_mem hj'))
 cases x with
 | agg l=>exact main l rfl hc.1 (.inr ⟨l,rfl⟩) hc.2
 | tup l=>exact absurd hc.1 (by simp[HV.one])
 | junk=>exact absurd hc.1 (by simp[HV.one])
 | _=>exact main _ rfl (by simpa [vi] using hc.1) (.inl hc.1) hc.2
theorem zKg {M:Nat→Prop} (vs:List Value) (h1:∀v∈vs,v.oneCell'=true):RowsIn M e w vs.length [vs.map ofV] vs:=
 .single (by simp) rfl h1 (fun k y v hk hv=>by
  rw[List.getElem?_map,hv] at hk
  cases hk
  exact xc M e w v)
theorem zGs {t:TypeId} {x:Operand} (ho:o.op=.box t x) (h:St ds F e0 D0 w0 fr PS a w) (hc:kL (ev fr x) PS K):
  o.wp P a w (fun a' w'=>∃v PS',K v PS'∧St ds F e0 D0 w0 (zV fr o.dst v) PS' a' w') Q:=by
 obtain⟨hd,e,D,hr,hf,ht⟩:=h
 obtain⟨l,hK,zz,hs⟩:=JL (zw hf x) hc
 have hadd:=hr.Yo (post:=[]) t 1 false zz (by simp) (by simp) (by simp[maxLen]) (by simp[hs])
 rw[List.append_nil,Array.toArray_toList] at hadd
 have hp:=zDB (F:=F) (e:=e) (D:=D) (PS:=PS) (w:=w) (w':=w.alloc (.cells (a.eval x).cells t)) 1 l.length w.heap.size
 rw[hr.len] at hp
 exact uR hd hf ht (u:=.pointer (some ⟨w.heap.size,0,none⟩)) (by simp[execOp,ho,Instr.box,newVar,newRow,newObj,Sem.run]) hadd (Tr.add _ _ _) hp hK
theorem zQd {t:TypeId} (ho:o.op=.alloc t) (h:St ds F e0 D0 w0 fr PS a w) (hc:uY P t PS K):
  o.wp P a w (fun a' w'=>∃v PS',K v PS'∧St ds F e0 D0 w0 (zV fr o.dst v) PS' a' w') Q:=by
 obtain⟨hd,e,D,hr,hf,ht⟩:=h
 unfold uY at hc
 cases hz:qP P t with
 | none=>rw[hz] at hc;exact hc.elim
 | some l=>
  rw[hz] at hc
  obtain⟨i,z,hi,hz0,rfl,hk⟩:=QE hz
  have zz:=zKg (M:=Mut F D) (e:=e) (w:=w) z.cells.toList hk
  have hadd:=hr.Yo (post:=[]) t 1 false zz (by simp) (by simp) (by simp[maxLen]) (by simp)
  rw[List.append_nil,Array.toArray_toList] at hadd
  have hp:=zDB (F:=F) (e:=e) (D:=D) (PS:=PS) (w:=w) (w':=w.alloc (.cells z.cells t)) 1 z.cells.toList.length w.heap.size
  rw[hr.len] at hp
  have hzr:(zeroValue t).run P w=.ok z w:=by simp[zeroValue,typeInfo,hi,hz0]
  simp only[List.length_map] at hc
  exact uR hd hf ht (u:=.pointer (some ⟨w.heap.size,0,none⟩)) (by simp[execOp,ho,Instr.alloc,hzr,newVar,newRow,newObj,Sem.run]) hadd (Tr.add _ _ _) hp hc
theorem zFE {i i' k k' sz:Nat} (h:i'≠i) (hk:k<sz) (hk':k'<sz):i'*sz+k'≠i*sz+k:=by
 intro he
 rcases Nat.lt_or_gt_of_ne h with h1 | h1
 ·have:(i'+1)*sz≤i*sz:=Nat.mul_le_mul_right _ h1
  rw[Nat.add_mul] at this;omega
 ·have:(i+1)*sz≤i'*sz:=Nat.mul_le_mul_right _ h1
  rw[Nat.add_mul] at this;omega
/-- Cells of a live row are written. -/
theorem Rel.zFY (h:Rel F e D PS w) {n ver sz:Nat} {E:List (List HV)} {opn:Bool} (hq:zA PS n=.arr ver sz E opn) {i k:Nat} {l:List HV} (hl:E[i]? =some l)
  {c:List HV} {vs:List Value} (hk:k+c.length≤l.length) (zz:RowsIn (Mut F D) e w c.length [c] vs):
  ∃p b o cap e',e[n]? =some p∧p.ver=ver∧p.kind=.arr b o sz cap∧∃w',(∀P:Program,(storeCells ⟨b,o+i*sz+k,none⟩ vs).run P w=.ok () w')∧Rel F e' D (PS.set n (.arr ver sz (E.set i (zP k c l)) opn)) w'∧Tr e D w e' D w':=by
 have hE:E≠[]:=by rintro rfl;simp at hl
 obtain⟨p,b,o,cap,hp,hpv,hkd,hD,zd⟩:=h.row hq (.inr hE)
 obtain⟨h1,h2,h3,cs,ty,hb,h4,h5,h6⟩:=zd
 have hlsz:=h5 l (List.mem_of_getElem? hl)
 have hil:i<E.length:=(List.getElem?_eq_some_iff.1 hl).1
 have hvl:vs.length=c.length:=by have:=zz.len;simpa using this
 have hrowle:(i+1)*sz≤cap*sz:=Nat.mul_le_mul_right _ (by omega)
 rw[Nat.add_mul] at hrowle
 have hrun:∀P:Program,(storeCells ⟨b,o+i*sz+k,none⟩ vs).run P w=.ok () (w.setRow b (zP (o+i*sz+k) vs cs.toList).toArray):=by
  intro P
  have:=run_storeCells_at P b (o+i*sz+k) ty vs 0 cs w hb (by omega) zz.one
  rw[this]
  simp[zP]
 have hs:(zP (o+i*sz+k) vs cs.toList).length=cs.toList.length:=kn _ _ _ (by simp;omega)
 obtain⟨hrel,ht⟩:=h.write (cap:=cap) (E':=E.set i (zP k c l)) (opn':=opn) (ver':=ver) hq hp hpv hD hb (zP (o+i*sz+k) vs cs.toList).toArray (.inl ⟨rfl,hkd⟩)
  (by simpa using h1) (fun hh=>by simpa using h2 hh) h3 (by simp only[List.size_toArray,hs];simpa using h4) (by
   intro r hr
   rcases List.mem_or_eq_of_mem_set hr with hr | rfl
   ·exact h5 r hr
   ·rw[kn _ _ _ hk];exact hlsz) (by
   intro i' r k' y hi hk'
   simp only[List.getElem?_toArray]
   rw[xd _ _ _ (by simp;omega)]
   by_cases hii:i'=i
   ·subst hii
    simp[hil] at hi
    subst hi
    rw[xd _ _ _ hk] at hk'
    by_cases hkk:k≤k'∧k'<k+c.length
    ·rw[if_pos hkk] at hk'
     obtain⟨v,h7,h8⟩:=zz.rel 0 c (k' - k) y rfl hk'
     rw[if_pos (by omega)]
     refine⟨v,?_,zz.one v (List.mem_of_getElem? h7),h8⟩
     rw[←h7];congr 1;omega
    ·rw[if_neg hkk] at hk'
     have hk'':k'<sz:=by rw[←hlsz];exact(List.getElem?_eq_some_iff.1 hk').1
     rw[if_neg (by omega)]
     simpa using h6 i' l k' y hl hk'
   ·rw[List.getElem?_set_ne (fun hh=>hii hh.symm)] at hi
    have hk'':k'<sz:=by rw[←h5 r (List.mem_of_getElem? hi)];exact(List.getElem?_eq_some_iff.1 hk').1
    rw[if_neg ?_]
    ·simpa using h6 i' r k' y hi hk'
    ·rintro⟨ha,hb'⟩
     have hne:=zFE (sz:=sz) (k:=o+i'*sz+k' - (o+i*sz)) (k':=k') hii (by omega) hk''
     omega)
 exact⟨p,b,o,cap,_,hp,hpv,hkd,_,hrun,hrel,ht⟩
theorem zPF {t:TypeId} {x y:Operand} (ho:o.op=.store t x y) (h:St ds F e0 D0 w0 fr PS a w) (hc:uI PS (ev fr x) (ev fr y) (fun PS'=>K .junk PS') (tsz P t)):
  o.wp P a w (fun a' w'=>∃v PS',K v PS'∧St ds F e0 D0 w0 (zV fr o.dst v) PS' a' w') Q:=by
 obtain⟨hd,e,D,hr,hf,ht⟩:=h
 unfold tsz at hc
 cases hu:P.underlying t with
 | none=>simp[hu,uI] at hc
 | some d=>
  cases hi:P.info? t with
  | none=>simp[hu,hi,uI] at hc
  | some ti=>
   simp only[hu,hi,uI] at hc
   obtain⟨c,⟨hcl,hc⟩,zz,hs⟩:=JL (zw hf y) hc
   have hx:=zw hf x
   generalize ev fr x=xa at hc hx
   cases xa with
   | ptr n ver i k=>
    simp only at hc
    cases hq:zA PS n with
    | arr ver' sz E opn=>
     rw[hq] at hc
     obtain⟨rfl,l,hl,hk,hK⟩:=hc
     have hE:E≠[]:=by rintro rfl;simp at hl
     have hlv:qJ (zA PS n) ver:=by rw[hq];exact⟨rfl,.inr hE⟩
     obtain⟨p',b',o',sz',cap',hp',hv',hkd',hxv⟩:=kr hr hx hlv
     obtain⟨p,b,o1,cap,e',hp,hpv,hkd,w',hrun,hrel,htr⟩:=hr.zFY (k:=k) hq hl (c:=c) (by omega) zz
     rw[hp] at hp';cases hp'
     rw[hkd] at hkd';cases hkd'
     refine zDF hd hf ht (e':=e') (D':=D) ?_ hrel htr hK
     simp only[execOp,ho,Instr.storeAt,hxv,Instr.sureAddr,storeVar,Sem.run_bind,Sem.run_pure,Result.andThen_ok,qC hi]
     rw[if_neg (by rw[hs,hcl];simp)]
     simp[hrun P]
    | dead=>rw[hq] at hc;exact hc.elim
    | map _ _ _ _=>rw[hq] at hc;exact hc.elim
    | mapT _ _ _ _=>rw[hq] at hc;exact hc.elim
    | iter _ _ _ _ _=>rw[hq] at hc;exact hc.elim
    | rnd _ _ _ _ _ _ _ _=>rw[hq] at hc;exact hc.elim
   | _=>exact hc.elim
theorem YN {t:TypeId} {s b:Nat} {z:List HV} (h:yV P t=some (s,b,z)):∃el i zv,P.underlying t=some (.slice el)∧P.info? el=some i∧i.zero=some zv∧i.size=s∧i.bytes=b∧zv.cells.size=s∧0<s∧
  z=zv.cells.toList.map ofV∧∀v∈zv.cells.toList,v.oneCell'=true:=by
 unfold yV at h
 cases hu:P.underlying t with
 | none=>rw[hu] at h;cases h
 | some d=>
  cases d with
  | slice el=>
   rw[hu] at h
   cases hi:P.info? el with
   | none=>simp only[hi] at h;cases h
   | some i=>
    cases hz:i.zero with
    | none=>simp only[hi,hz] at h;cases h
    | some zv=>
     simp only[hi,hz] at h
     split at h
     ·rename_i hh
      cases h
      refine⟨el,i,zv,rfl,hi,hz,rfl,rfl,hh.1,hh.2.1,rfl,fun v hv=>?_⟩
      have ha:=hh.2.2
      rw[Array.all_eq_true_iff_forall_mem] at ha
      exact ha v (Array.mem_toList_iff.1 hv)
     ·cases h
  | _=>rw[hu] at h;cases h
end
end Go.Eng
namespace Go.Eng
open Go
variable [zB]
section
variable {P:Program} {ds:List Deferred} {F:Nat→Prop} {e e0:List Pos} {D D0:Nat→Nat→Prop} {PS PS':PL} {w w0 w':World} {fr:Fr} {a:Act} {o:Oper} {K:HV→PL→Prop} {Q:Exit→Act→World→Prop} {M:Nat→Prop}
theorem XS (z:Array Value) {s:Nat} (hs:z.size=s) (h0:0<s) (h1:∀v∈z.toList,v.oneCell'=true) (n:Nat):
  RowsIn M e w s (List.replicate n (z.toList.map ofV)) (madeCells z (n*s)).toList where
 len:=by simp[size_madeCells]
 sz:=fun r hr=>by rw[(List.mem_replicate.1 hr).2];simp[hs]
 one:=fun v hv=>by
  obtain⟨j,hj,rfl⟩:=List.mem_iff_getElem.1 hv
  have:j % z.size<z.size:=Nat.mod_lt _ (by omega)
  simp only[madeCells,Array.getElem_toList,Array.getElem_map,Array.getElem_range]
  rw[getElem!_pos z _ this]
  exact h1 _ (Array.getElem_mem_toList this)
 rel:=fun i r k y hi hk=>by
  have hr:=(List.mem_replicate.1 (List.mem_of_getElem? hi))
  have hil:i<n:=by have:=(List.getElem?_eq_some_iff.1 hi).1;simpa using this
  obtain⟨_,rfl⟩:=hr
  have hks:k<s:=by have:=(List.getElem?_eq_some_iff.1 hk).1;simpa [hs] using this
  rw[List.getElem?_map] at hk
  have hzk:z.toList[k]? =some z[k]:=by simp[hs,hks]
  rw[hzk] at hk
  cases hk
  refine⟨z[k],?_,xc M e w _⟩
  have hlt:i*s+k<n*s:=by
   have:(i+1)*s≤n*s:=Nat.mul_le_mul_right _ hil
   rw[Nat.add_mul] at this;omega
  have hmod:(i*s+k) % z.size=k:=by rw[hs,Nat.add_comm,Nat.mul_comm,Nat.add_mul_mod_self_left,Nat.mod_eq_of_lt hks]
  simp only[madeCells,Array.getElem?_toList,Array.getElem?_map,Array.getElem?_range,if_pos hlt,Option.map_some,Option.some.injEq]
  rw[hmod,getElem!_pos z k (by omega)]
theorem zAO {s b len cap:Nat} {cp:Option Nat} {M':Nat→Prop} (hl:len≤cap) (hm:cap≤maxLen) (hc:match cp with | some c=>cap=c | none=>True):
  zH M' (e++[⟨0,.arr b 0 s cap⟩]) w' (.sl e.length 0 0 len cp) (.slice (some ⟨b,0,none⟩) len cap):=
 .sl e.length 0 0 len cp _ ⟨0,.arr b 0 s cap⟩ (by simp) (Nat.le_refl _) (fun _=>⟨_,cap,rfl,hl,hm,by simp,by simp,by cases cp<;>simp_all⟩) rfl
theorem zQ0 {t:TypeId} {x y:Operand} (ho:o.op=.makeSlice t x y) (h:St ds F e0 D0 w0 fr PS a w) (hc:jr PS (ev fr x) (ev fr y) K (yV P t)):
  o.wp P a w (fun a' w'=>∃v PS',K v PS'∧St ds F e0 D0 w0 (zV fr o.dst v) PS' a' w') Q:=by
 obtain⟨hd,e,D,hr,hf,ht⟩:=h
 cases hm:yV P t with
 | none=>rw[hm] at hc;exact hc.elim
 | some q=>
  obtain⟨s,b,z⟩:=q
  rw[hm] at hc
  obtain⟨el,i,zv,hu,hi,hz,hs,hb,hzs,hs0,rfl,h1⟩:=YN hm
  have hx:=zw hf x
  have hy:=zw hf y
  generalize ev fr x=xa at hc hx
  generalize ev fr y=ya at hc hy
  simp only[jr] at hc
  unfold XF at hc
  split at hc
  ·rename_i l c
   generalize hxv:a.eval x=xv at hx
   generalize hyv:a.eval y=yv at hy
   cases hx;cases hy
   obtain⟨g0,g1,g2,g3,hK⟩:=hc
   have hrun:=run_make (P:=P) w t el i zv hu hi hz .i64 .i64 l c g0 g1 (by rw[hb,Int.mul_comm];omega) (by omega)
   have zz:=XS (M:=Mut F D) (e:=e) (w:=w) zv.cells hzs hs0 h1 c.toNat
   have hadd:=hr.Yo (post:=[]) el c.toNat false zz (by simp) (by simp) (by simp[maxLen];omega) (by simp[size_madeCells])
   rw[List.append_nil,Array.toArray_toList] at hadd
   have hp:=zAO (e:=e) (w':=w.alloc (.cells (madeCells zv.cells (c.toNat*s)) el)) (M':=Mut F (we D PS.length w.heap.size)) (s:=s) (b:=w.heap.size) (len:=l.toNat) (cap:=c.toNat) (cp:=some c.toNat) (by omega) (by simp[maxLen];omega) rfl
   rw[hr.len] at hp
   rw[hs] at hrun
   exact uR hd hf ht (by simp[execOp,ho,hxv,hyv,hrun]) hadd (Tr.add _ _ _) hp hK
  ·exact hc.elim
/-- A block that nobody writes any more,as an immutable slice. -/
theorem zAl {s b c:Nat} {E:List (List HV)} {vs post:List Value} {ty:TypeId} {fz:Nat×Nat} (hr:RowsIn M e w s E vs) (hb:w.heap[b]? =some (.cells (vs++post).toArray ty fz)) (hM:¬M b)
  (t:Bool) (hc:E.length≤c) (hm:c≤maxLen) (ht:t=true→c=E.length):zH M e w (.imm t E) (.slice (some ⟨b,0,none⟩) E.length c):=by
 have hex:∀i k,∃v:Value,v.oneCell'=true∧∀(r:List HV) (y:HV),E[i]? =some r→r[k]? =some y→vs[i*s+k]? =some v∧zH M e w y v:=by
  intro i k
  by_cases hx:∃(r:List HV) (y:HV),E[i]? =some r∧r[k]? =some y
  ·obtain⟨r,y,h1,h2⟩:=hx
   obtain⟨v,h3,h4⟩:=hr.rel i r k y h1 h2
   refine⟨v,hr.one v (List.mem_of_getElem? h3),fun r' y' h1' h2'=>?_⟩
   rw[h1] at h1';cases h1'
   rw[h2] at h2';cases h2'
   exact⟨h3,h4⟩
  ·exact⟨.bool true,rfl,fun r y h1 h2=>absurd ⟨r,y,h1,h2⟩ hx⟩
 refine .imm t E _ c b 0 s (fun i k=>Classical.choose (hex i k)) hc hm ht (by simp) (fun _=>rfl) (fun _=>⟨hM,(Array.getElem?_eq_some_iff.1 hb).1⟩) hr.sz (fun i k=>(Classical.choose_spec (hex i k)).1) ?_ ?_
 ·intro i r k y hi hk
  have:=((Classical.choose_spec (hex i k)).2 r y hi hk).1
  rw[cell_of_row w b _ _ ty fz hb,Nat.zero_add]
  simp only[List.getElem?_toArray]
  rw[List.getElem?_append_left (List.getElem?_eq_some_iff.1 this).1]
  exact this
 ·intro i r k y hi hk
  exact((Classical.choose_spec (hex i k)).2 r y hi hk).2
end
/-- A slice literal:rows that are set. -/
def vV (s:Nat) (K:List (List HV)→Prop):List (List HV)→List (Nat×HV)→Prop
 | E,[]=>K E
 | E,(i,x)::r=>hst x fun l=>l.length=s∧i<E.length∧vV s K (E.set i l) r
def vn (n:Nat) (parts:List (Nat×HV)) (K:HV→Prop):Option (Nat×Nat×List HV)→Prop
 | some (s,_,z)=>n*s≤16777216∧n≤65536∧vV s (fun E=>K (.imm true E)) (List.replicate n z) parts
 | none=>False
section
variable {P:Program} {ds:List Deferred} {F:Nat→Prop} {e e0:List Pos} {D D0:Nat→Nat→Prop} {PS PS':PL} {w w0 w':World} {fr:Fr} {a:Act} {o:Oper} {K:HV→PL→Prop} {Q:Exit→Act→World→Prop} {M:Nat→Prop}
theorem RowsIn.set {s i:Nat} {E:List (List HV)} {vs:List Value} {l:List HV} {ls:List Value} (h:RowsIn M e w s E vs) (hi:i<E.length) (hl:RowsIn M e w s [l] ls):
  RowsIn M e w s (E.set i l) (zP (i*s) ls vs):=by
 have hls:ls.length=s:=by have:=hl.len;simpa using this
 have hle:(i+1)*s≤E.length*s:=Nat.mul_le_mul_right _ hi
 rw[Nat.add_mul] at hle
 have wN:i*s+ls.length≤vs.length:=by rw[h.len];omega
 refine⟨by rw[kn _ _ _ wN];simpa using h.len,fun r hr=>?_,fun v hv=>?_,fun i' r k y hi' hk=>?_⟩
 ·rcases List.mem_or_eq_of_mem_set hr with hr | rfl
  ·exact h.sz r hr
  ·exact hl.sz _ (by simp)
 ·unfold zP at hv
  rcases List.mem_append.1 hv with hv | hv
  ·exact h.one v (List.mem_of_mem_take hv)
  ·rcases List.mem_append.1 hv with hv | hv
   ·exact hl.one v hv
   ·exact h.one v (List.mem_of_mem_drop hv)
 ·rw[xd _ _ _ wN]
  by_cases hii:i'=i
  ·subst hii
   simp[hi] at hi'
   subst hi'
   have hks:k<s:=by rw[←hl.sz l (by simp)];exact(List.getElem?_eq_some_iff.1 hk).1
   obtain⟨v,h1,h2⟩:=hl.rel 0 l k y rfl hk
   rw[if_pos (by omega)]
   refine⟨v,?_,h2⟩
   rw[←h1];congr 1;omega
  ·rw[List.getElem?_set_ne (fun hh=>hii hh.symm)] at hi'
   have hks:k<s:=by rw[←h.sz r (List.mem_of_getElem? hi')];exact(List.getElem?_eq_some_iff.1 hk).1
   rw[if_neg ?_]
   ·exact h.rel i' r k y hi' hk
   ·rintro⟨h1,h2⟩
    exact zFE (sz:=s) (k:=i'*s+k - i*s) (k':=k) hii (by omega) hks (by omega)
theorem zFL {s:Nat} {K:List (List HV)→Prop}:∀(ps:List (Nat×HV)) (vs:List (Nat×Value)) (E:List (List HV)) (cs:Array Value),RowsIn (Mut F D) e w s E cs.toList→
   ps.length=vs.length→(∀(i:Nat) (p:Nat×HV) (q:Nat×Value),ps[i]? =some p→vs[i]? =some q→p.1=q.1∧zH (Mut F D) e w p.2 q.2)→vV s K E ps→
   ∃E' cs',Instr.fill (fun i=>some (i*s,s)) cs vs=some cs'∧RowsIn (Mut F D) e w s E' cs'.toList∧E'.length=E.length∧K E':=by
 intro ps
 induction ps with
 | nil=>
  intro vs E cs hr hlen _ h
  obtain rfl:vs=[]:=List.eq_nil_of_length_eq_zero hlen.symm
  exact⟨E,cs,rfl,hr,rfl,h⟩
 | cons p ps ih=>
  intro vs E cs hr hlen hps h
  obtain⟨i,x⟩:=p
  cases vs with
  | nil=>simp at hlen
  | cons q vs=>
   obtain⟨i',u⟩:=q
   obtain⟨h1,h2⟩:=hps 0 (i,x) (i',u) rfl rfl
   simp only at h1 h2
   subst h1
   obtain⟨l,⟨hl,hi,hf⟩,zz,hsz⟩:=JL h2 h
   rw[hl] at zz
   have hset:=hr.set hi zz
   have hle:(i+1)*s≤E.length*s:=Nat.mul_le_mul_right _ hi
   rw[Nat.add_mul] at hle
   have hcl:cs.size=E.length*s:=by simpa using hr.len
   have hfs:=zAa u.cells.toList (i*s) 0 cs (by simp;omega)
   have hz:u.cells.zipIdx.foldl (fun cs (c,j)=>cs.setIfInBounds (i*s+j) c) cs=(zP (i*s) u.cells.toList cs.toList).toArray:=by
    have:u.cells.zipIdx.foldl (fun cs (c,j)=>cs.setIfInBounds (i*s+j) c) cs=(u.cells.toList.zipIdx 0).foldl (fun cs (c,j)=>cs.setIfInBounds (i*s+j) c) cs:=by
     rw[←Array.foldl_toList];simp
    rw[this]
    apply Array.ext_getElem?
    intro j
    rw[hfs.2 j]
    simp only[List.getElem?_toArray]
    rw[xd _ _ _ (by simp;omega)]
    simp
   obtain⟨E',cs',r1,r2,r3,r4⟩:=ih vs (E.set i l) (zP (i*s) u.cells.toList cs.toList).toArray (by simpa using hset) (by simpa using hlen) (fun j p q hp hq=>hps (j+1) p q (by simpa using hp) (by simpa using hq)) hf
   refine⟨E',cs',?_,r2,by simpa using r3,r4⟩
   simp only[Instr.fill]
   rw[if_neg (by simp;omega),hz]
   exact r1
theorem zOV {t:TypeId} {n:Nat} {parts:Array (Nat×Operand)} (ho:o.op=.buildSlice t n parts) (h:St ds F e0 D0 w0 fr PS a w)
  (hc:vn n (parts.toList.map fun p=>(p.1,ev fr p.2)) (fun x=>K x PS) (yV P t)):
  o.wp P a w (fun a' w'=>∃v PS',K v PS'∧St ds F e0 D0 w0 (zV fr o.dst v) PS' a' w') Q:=by
 obtain⟨hd,e,D,hr,hf,ht⟩:=h
 cases hm:yV P t with
 | none=>rw[hm] at hc;exact hc.elim
 | some q=>
  obtain⟨s,b,z⟩:=q
  rw[hm] at hc
  obtain⟨el,i,zv,hu,hi,hz,hs,hb,hzs,hs0,rfl,h1⟩:=YN hm
  obtain⟨g1,g2,hc⟩:=hc
  have zz:=XS (M:=Mut F D) (e:=e) (w:=w) zv.cells hzs hs0 h1 n
  obtain⟨E,cs,qW,hE,hEl,hK⟩:=zFL (F:=F) (D:=D) (e:=e) (w:=w) (parts.toList.map fun p=>(p.1,ev fr p.2)) (parts.toList.map fun p=>(p.1,a.eval p.2)) _ _ zz (by simp) (by
   intro j p q hp hq
   rw[List.getElem?_map] at hp hq
   cases hx:parts.toList[j]? with
   | none=>rw[hx] at hp;cases hp
   | some y=>rw[hx] at hp hq;cases hp;cases hq;exact⟨rfl,zw hf y.2⟩) hc
  simp only[List.length_replicate] at hEl
  have hcs:(Instr.buildSlice t n (parts.map fun p=>(p.1,a.eval p.2))).run P w=.ok (.slice (some ⟨w.heap.size,0,none⟩) n n) (w.alloc (.cells cs el)):=by
   have hfill':Instr.fill (fun i=>some (i*s,s)) ((Array.range (n*s)).map (zv.cells[· % zv.cells.size]!)) (parts.map fun p=>(p.1,a.eval p.2)).toList=some cs:=by
    rw[Array.toList_map];exact qW
   have hsmall:¬16777216<n*s:=by omega
   by_cases hn:n*s=0
   ·have hn0:n=0:=by rcases Nat.mul_eq_zero.1 hn with h | h;exact h;omega
    subst hn0
    simp only[Nat.zero_mul] at hfill'
    have e0:((Array.range 0).map (zv.cells[· % zv.cells.size]!))=#[]:=by simp
    rw[e0] at hfill'
    simp only[Instr.buildSlice,Sem.run_bind,run_underlying hu,qC hi,Result.andThen_ok,hs,Nat.zero_mul,Nat.reducePow,gt_iff_lt,Nat.not_lt_zero,if_false,if_true,Sem.run_pure]
    have e1:Array.range 0=#[]:=rfl
    rw[e1,Array.map_empty,hfill']
    simp[newRow,newObj,Sem.run]
   ·have hzr:(zeroValue el).run P w=.ok zv w:=by simp[zeroValue,typeInfo,hi,hz]
    simp only[Instr.buildSlice,Sem.run_bind,run_underlying hu,qC hi,Result.andThen_ok,hs,Nat.reducePow,gt_iff_lt,hsmall,hn,if_false,Sem.run_pure,hzr,hfill']
    simp[newRow,newObj,Sem.run]
  have hal:=hr.alloc (.cells cs el)
  have htr:Tr e D w e D (w.alloc (.cells cs el)):=Tr.alloc _
  have hnm:¬Mut F D w.heap.size:=by
   rintro (hx | ⟨j,hx⟩)
   ·exact Nat.lt_irrefl _ (hr.fore _ hx)
   ·exact Nat.lt_irrefl _ (hr.out j _ hx).2.1
  have hv:=zAl (M:=Mut F D) (e:=e) (w:=w.alloc (.cells cs el)) (post:=[]) (b:=w.heap.size) (c:=n) (ty:=el) (fz:=(0,0)) (hE.mono htr.stays htr.env) (by rw[List.append_nil,Array.toArray_toList];exact heap_alloc_new w _) hnm true (by omega) (by simp[maxLen];omega) (fun _=>hEl.symm)
  rw[hEl] at hv
  exact uR hd hf ht (by simp[execOp,ho,hcs]) hal htr hv hK
end
end Go.Eng
